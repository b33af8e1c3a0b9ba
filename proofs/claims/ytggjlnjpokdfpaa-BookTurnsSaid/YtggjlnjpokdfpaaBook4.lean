/- Contracts of package book: All; the example of chapter 18. -/
import Derived.Test.YtggjlnjpokdfpaaBook2
import Derived.Test.YtggjlnjpokdfpaaPLives
namespace Go.Proofs.Ytggjlnjpokdfpaa
open Go.RowKit

/-- Operations, one behind the other: the answers, and the map's rows. -/
def allStep (s : List AnsI × List ByteArray × List Int) (o : OpD) : List AnsI × List ByteArray × List Int := (s.1 ++ [(doD s.2.1 s.2.2 o).1], (doD s.2.1 s.2.2 o).2.1, (doD s.2.1 s.2.2 o).2.2)
def allD (ks : List ByteArray) (vs : List Int) (xs : List OpD) : List AnsI × List ByteArray × List Int := xs.foldl allStep ([], ks, vs)
theorem allD_take (ks : List ByteArray) (vs : List Int) {xs : List OpD} {j : Nat} (hj : j < xs.length) : allD ks vs (xs.take (j + 1)) = allStep (allD ks vs (xs.take j)) xs[j] := by
  unfold allD
  rw [List.take_add_one, List.getElem?_eq_getElem hj, Option.toList, List.foldl_append]
  rfl
theorem writeD_len (ks : List ByteArray) (vs : List Int) (o : OpD) : (writeD ks vs o).2.1.length ≤ ks.length + 1 := by
  have h1 := pKs_len ks o.key
  have h2 : (dKs ks o.key).length ≤ ks.length := by
    unfold dKs
    split
    · exact List.length_eraseIdx_le ..
    · exact Nat.le_refl _
  unfold writeD
  split
  · split <;> simp only [] <;> omega
  · split
    · split <;> simp only [] <;> omega
    · split
      · simp
      · split <;> simp only [] <;> omega
theorem doD_len (ks : List ByteArray) (vs : List Int) (o : OpD) : (doD ks vs o).2.1.length ≤ ks.length + 1 := by
  unfold doD
  have := writeD_len ks vs o
  split
  · split
    · simp
    · exact this
  · simp
theorem allD_len (ks : List ByteArray) (vs : List Int) (xs : List OpD) : ∀ j, j ≤ xs.length → (allD ks vs (xs.take j)).2.1.length ≤ ks.length + j ∧ (allD ks vs (xs.take j)).1.length = j
  | 0, _ => by simp [allD]
  | j + 1, h => by
    have ih := allD_len ks vs xs j (by omega)
    rw [allD_take ks vs (show j < xs.length by omega)]
    unfold allStep
    simp only [List.length_append, List.length_singleton]
    have := doD_len (allD ks vs (xs.take j)).2.1 (allD ks vs (xs.take j)).2.2 xs[j]
    omega

/-- Answers in a row of cells: their codes, their values. -/
def AnsRow (az : List AnsI) (ys : List Value) : Prop := ∀ (i : Nat) (a : AnsI), az[i]? = some a → ys[i * 4]? = some (.int .i64 a.code) ∧ ys[i * 4 + 2]? = some (.int .u64 a.val)
theorem AnsRow.nil : AnsRow [] [] := fun i a h => by simp at h
theorem AnsRow.snoc {az : List AnsI} {ys : List Value} (h : AnsRow az ys) (hl : ys.length = az.length * 4) (a : AnsI) (A : Option Addr) (c : Nat) : AnsRow (az ++ [a]) (ys ++ (anCells a A c).toList) := by
  intro i b hb
  rcases Nat.lt_or_ge i az.length with g | g
  · rw [List.getElem?_append_left g] at hb
    obtain ⟨h1, h2⟩ := h i b hb
    rw [List.getElem?_append_left (by omega), List.getElem?_append_left (by omega)]
    exact ⟨h1, h2⟩
  · rw [List.getElem?_append_right g] at hb
    rcases hz : i - az.length with _ | m
    · rw [hz] at hb
      injection hb with hb
      subst hb
      have hi : i = az.length := by omega
      subst hi
      rw [List.getElem?_append_right (by omega), List.getElem?_append_right (by omega), hl, Nat.sub_self, show az.length * 4 + 2 - az.length * 4 = 2 by omega]
      exact ⟨rfl, rfl⟩
    · rw [hz] at hb
      simp at hb
theorem ans_info : (Try.prog.info? 87).map (fun i => (i.zero, i.size, i.bytes)) = some (some (.agg zeroA), 4, 56) := by kernel_rfl

/-- An answer is put behind others, beside a map. -/
theorem push_ans {T0 : Nat → Prop} {B g n : Nat} {W : World} {ks : List ByteArray} {vs : List Int} {v : Value} {ys : List Value} (hown : W.ownsRow B 87 4 v n ys) (hB : B ≤ W.heap.size)
    (hM : MapAt (fun q => T0 q ∨ v.ownBlock = some q) W g ks vs) (a : AnsI) (A : Option Addr) (c : Nat) (hn : n ≤ 10000) :
    ∃ A' c' W1, (Builtin.append_ #[94, 94] 94 #[v, .slice (some ⟨W.heap.size, 0, none⟩) 1 1]).run Try.prog (W.alloc (.cells (anCells a A c) 87)) = .ok (.slice A' (n + 1) c') W1 ∧
      W1.ownsRow B 87 4 (.slice A' (n + 1) c') (n + 1) (ys ++ (anCells a A c).toList) ∧ MapAt (fun q => T0 q ∨ (Value.slice A' (n + 1) c').ownBlock = some q) W1 g ks vs ∧ Off (fun q => v.ownBlock = some q) W W1 := by
  obtain ⟨inf, hinf, hz, hs, hb⟩ := info_parts ans_info
  have hba := below_alloc W (.cells (anCells a A c) 87)
  have hsz : (W.alloc (.cells (anCells a A c) 87)).heap.size = W.heap.size + 1 := by simp
  have hoa := own_off hown (Off.of_below hba (fun _ => False)) (fun _ _ q => q)
  obtain ⟨v', W1, hrun, ho, hg, _, hor⟩ := run_append_own_at (P := Try.prog) (W.alloc (.cells (anCells a A c) 87)) B 94 94 87 inf (.agg zeroA) 4 56 Try.underlying94 hinf hz hs hb rfl (by omega) v n ys hoa ⟨W.heap.size, 0, none⟩ 1 1 (anCells a A c).toList rfl
    (fun j u hju => by rw [Addr.add_lit, Nat.zero_add]; exact new_cell W (anCells a A c) 87 j u (by simpa using hju)) (fun u hu => by
      simp only [anCells, List.mem_cons, List.not_mem_nil, or_false] at hu
      rcases hu with rfl | rfl | rfl | rfl <;> rfl) (by unfold maxLen; omega) (by omega) (by omega)
  have hv : ∃ A' c', v' = .slice A' (n + 1) c' := by
    rcases ho.2 with ⟨_, hn⟩ | ⟨g, cap, cur, rfl, _, _, hnc, _⟩
    · omega
    · exact ⟨_, cap, rfl⟩
  obtain ⟨A', c', rfl⟩ := hv
  have hO := Off.of_grown hg
  refine ⟨A', c', W1, hrun, ho, ?_, ?_⟩
  · have h1 : MapAt (fun q => T0 q ∨ v.ownBlock = some q ∨ W.heap.size ≤ q) W g ks vs := hM.more (fun k hk q => by
      rcases q with q | q | q
      · exact .inl q
      · exact .inr q
      · omega)
    have h2 := (h1.up hba).off hO (fun k e => .inr (.inl e.symm))
    refine h2.more (fun k _ q => ?_)
    rcases q with q | q
    · exact .inl q
    · rcases hor with e | e
      · exact .inr (.inl (by rw [← e]; exact q))
      · rw [e] at q
        injection q with q
        exact .inr (.inr (by omega))
  · exact (Off.of_below hba (fun q => v.ownBlock = some q)).trans hO (fun j _ e => e.symm)

theorem opl_off {w W : World} {g : Nat} {A : Option Addr} {xs : List OpD} (h : Opl w A xs) (ho : Off (fun q => q = g) w W) (hn : 0 < xs.length → ∀ a, A = some a → a.block ≠ g) : Opl W A xs := fun h0 => by
  obtain ⟨b, off, rfl, hb, hc⟩ := h h0
  have hb2 : ¬ b = g := hn h0 ⟨b, off, none⟩ rfl
  exact ⟨b, off, rfl, Nat.lt_of_lt_of_le hb ho.size, fun j hj k v hv => (ho.cell (p := ⟨b, off + j * 5 + k, none⟩) hb hb2).trans (hc j hj k v hv)⟩

/-- Where All stands. -/
structure AllSt (T0 : Nat → Prop) (g : Nat) (w W : World) (s : List AnsI × List ByteArray × List Int) (v : Value) (j : Nat) : Prop where
  off : Off (fun q => q = g) w W
  own : ∃ ys, W.ownsRow w.heap.size 87 4 v j ys ∧ AnsRow s.1 ys
  map : MapAt (fun q => T0 q ∨ v.ownBlock = some q) W g s.2.1 s.2.2

set_option maxRecDepth 100000 in
set_option maxHeartbeats 8000000 in
theorem bkall_any (T0 : Nat → Prop) (g : Nat) (ks : List ByteArray) (vs : List Int) (A : Option Addr) (c : Nat) (xs : List OpD) (w : World) (h : MapAt T0 w g ks vs) (hx : Opl w A xs) (hno : 0 < xs.length → ∀ a, A = some a → a.block ≠ g) (ho : ∀ x ∈ xs, OpOk x) (hl : ks.length + xs.length ≤ 900) (hT : ∀ t, T0 t → t < w.heap.size) :
    Calls Try.prog 62 #[.pointer (some ⟨g, 0, none⟩), .slice A xs.length c] w (fun e w' => ∃ As cs, e = .returned (.slice As xs.length cs) ∧ AllSt T0 g w w' (allD ks vs xs) (.slice As xs.length cs) xs.length) := by
  have HX := Lib.hid hx
  have HNo := Lib.hid hno
  have HOk := Lib.hid ho
  have HTT := Lib.hid hT
  have HG := Lib.hid h.lt
  have HL := Lib.hid (allD_len ks vs xs)
  have HS0 := Lib.hid (show AllSt T0 g w w (allD ks vs (xs.take 0)) (.slice none 0 0) 0 from ⟨Off.refl _ _, ⟨[], World.ownsRow_nil _ _ _ _, AnsRow.nil⟩, h.more (fun k _ q => by
    rcases q with q | q
    · exact q
    · simp [Value.ownBlock] at q)⟩)
  have hx63 : xs.length ≤ 900 := by omega
  clear h hx hno ho hT
  go_enter Try.func62, Try.ntmps62
  go_wp2_with fail
  go_loopw [4, 5, 8] (fun v _ i wr => ∃ (j : Nat) (As : Option Addr) (cs : Nat), i = .int .i64 j ∧ v = .slice As j cs ∧ Hid (j ≤ xs.length ∧ AllSt T0 g w wr (allD ks vs (xs.take j)) (.slice As j cs) j)) (fun _ _ i _ => xs.length - (intOf i).toNat)
  case atStart => exact ⟨0, none, 0, rfl, rfl, Nat.zero_le _, HS0.out⟩
  case round =>
    obtain ⟨j, As, cs, rfl, rfl, H⟩ := hrel
    clear HS0
    have HS := Lib.hid H.out.2
    by_cases hlt : j < xs.length
    · have hj63 : j ≤ 900 := by omega
      obtain ⟨b, off, rfl, hbl, d0, d1, d2, d3, d4⟩ := (opl_off HX.out HS.out.off HNo.out).at_ hlt
      have HTK := Lib.hid (allD_take ks vs hlt)
      have hok := HOk.out _ (List.getElem_mem hlt)
      have hlen := (HL.out j (by omega)).1
      have HAL := Lib.hid (HL.out j (by omega)).2
      generalize allD ks vs (xs.take j) = s at HS HTK HAL hlen
      generalize xs[j] = x at d0 d1 d2 d3 d4 hok HTK
      obtain ⟨az, ks1, vs1⟩ := s
      have HBe := Lib.hid HS.out.off
      have HLS := Lib.hid (show ks1.length ≤ 900 by simp only [] at hlen; omega)
      have HD := Lib.hid (bkdo_any _ g ks1 vs1 x wr HS.out.map hok (by have := HLS.out; omega) (fun t q => by
        rcases q with q | q
        · have := HTT.out t q
          have := HS.out.off.size
          omega
        · obtain ⟨ys, hy, _⟩ := HS.out.own
          exact (own_lt hy q).2))
      have HSt := Lib.hid (show allStep (az, ks1, vs1) x = (az ++ [(doD ks1 vs1 x).1], (doD ks1 vs1 x).2.1, (doD ks1 vs1 x).2.2) from rfl)
      generalize doD ks1 vs1 x = dd at HD HSt
      obtain ⟨a, ks2, vs2⟩ := dd
      simp only [] at HD HSt
      obtain ⟨kind, key, upto, val, limit⟩ := x
      simp only [] at d0 d1 d2 d3 d4
      simp only [opCells] at HD
      clear hlen hok H hbl
      go_wp2_with fail
      refine HD.out.mono ?_
      rintro e w2 ⟨A9, c9, rfl, hown, hm, hof⟩
      clear d0 d1 d2 d3 d4 HD
      obtain ⟨ys, hy, har⟩ := HS.out.own
      have hyl := hy.1
      have hy2 := own_off hy hof (fun k hk e => by have := (own_lt hy hk).1; have := HG.out; omega)
      have hle2 : w.heap.size ≤ w2.heap.size := Nat.le_trans HS.out.off.size hof.size
      obtain ⟨A8, c8, w8, hrun, hown8, hm8, hof8⟩ := push_ans hy2 hle2 hm a A9 c9 (by omega)
      have Hrun := Lib.hid hrun
      simp only [anCells] at Hrun ⊢
      have HN := Lib.hid (show AllSt T0 g w w8 (allD ks vs (xs.take (j + 1))) (.slice A8 (j + 1) c8) (j + 1) by
        rw [HTK.out, HSt.out]
        exact ⟨(HS.out.off.trans hof (fun _ _ q => q)).trans hof8 (fun k hk e => by have := (own_lt hy2 e).1; omega), ⟨_, hown8, har.snoc (by rw [hyl, HAL.out]) a A9 c9⟩, hm8⟩)
      clear hrun hown8 hm8 hof8 hy2 hy har hyl hown hm hof hle2
      go_wp2_with (at_builtin; refine wpList_append_run rfl (.tmp 11) (.tmp 18) 94 rfl rfl rfl Hrun.out ?_)
      go_roundw
      case rel => exact ⟨j + 1, A8, c8, by go_num, rfl, by omega, HN.out⟩
      case measure => simp [intOf]; omega
    · obtain rfl : j = xs.length := by have := H.out.1; omega
      have hs := HS.out
      rw [List.take_length] at hs
      have HS9 := Lib.hid hs
      clear hs HS H
      go_wp2_with fail
      exact bodyPost_ret (v := .slice As xs.length cs) (by simp [results, Try.results62, go_sem]) rfl ⟨As, cs, rfl, HS9.out⟩

end Go.Proofs.Ytggjlnjpokdfpaa
