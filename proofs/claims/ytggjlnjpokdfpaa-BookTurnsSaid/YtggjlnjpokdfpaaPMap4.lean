/- Contracts of package pairs: Scan. -/
import Derived.Test.YtggjlnjpokdfpaaPMap3
namespace Go.Proofs.Ytggjlnjpokdfpaa
open Go.RowKit

set_option maxRecDepth 100000 in
set_option maxHeartbeats 1000000 in
theorem pmscan1_any (p : PairD) (high : ByteArray) (bh bo bl : Nat) (A1 : Option Addr) (m c1 : Nat) (limit : Int) (w : World) (hh : w.cell? ⟨bh, 0, none⟩ = some (.string high)) (ho : w.cell? ⟨bo, 0, none⟩ = some (.slice A1 m c1)) (hl : w.cell? ⟨bl, 0, none⟩ = some (.int .i64 limit))
    (h1 : bh < w.heap.size) (h2 : bo < w.heap.size) (h3 : bl < w.heap.size) (hp : p.key.size ≤ maxLen) (hk : high.size ≤ maxLen) (hm : m ≤ 9223372036854775807) :
    Calls Try.prog 80 #[.agg (prCells p), .pointer (some ⟨bh, 0, none⟩), .pointer (some ⟨bo, 0, none⟩), .pointer (some ⟨bl, 0, none⟩)] w (Ret (.bool (!Pl.ls high.data.toList p.key.data.toList && decide ((m : Int) < limit))) w) := by
  have hS := Lib.hid ((Sx.start0 w).alloc (.cells (prCells p) 59))
  have HC := Lib.hid (fun W => compare_any p.key high W hp hk)
  have HF := Lib.hid (And.intro (And.intro hh h1) (And.intro (And.intro ho h2) (And.intro hl h3)))
  have HCL := Lib.hid (Pl.cmp_le (a := p.key.data.toList) (b := high.data.toList))
  clear hh ho hl h1 h2 h3 hp hk
  generalize Pl.cmp p.key.data.toList high.data.toList = z at HC HCL
  generalize Pl.ls high.data.toList p.key.data.toList = r at HCL ⊢
  simp only [prCells, List.nil_append] at hS ⊢
  go_enter Try.func80, Try.ntmps80
  go_upto_region 1 with fail
  generalize w.alloc _ = W at hS ⊢
  obtain ⟨y0, y1, -, -⟩ := pr_facts (hS.out.has 0 _ _ rfl).1
  have c0 := (hS.out.below.cell (p := ⟨bh, 0, none⟩) HF.out.1.2).trans HF.out.1.1
  go_wp2_with fail
  refine (HC.out _).mono ?_
  rintro e wn ⟨rfl, hbn⟩
  replace hS := Lib.hid (hS.out.call hbn)
  clear hbn c0 y0 y1 HC
  cases r
  · have hz : decide (z ≤ 0) = true := decide_eq_true (HCL.out.2 rfl)
    have c1' := (hS.out.below.cell (p := ⟨bo, 0, none⟩) HF.out.2.1.2).trans HF.out.2.1.1
    have c2' := (hS.out.below.cell (p := ⟨bl, 0, none⟩) HF.out.2.2.2).trans HF.out.2.2.1
    go_wp2_with fail
    go_ret
    exact ⟨ret_bool (by simp), hS.out.below⟩
  · have hz : decide (z ≤ 0) = false := decide_eq_false (fun q => by have := HCL.out.1 q; cases this)
    go_wp2_with fail
    go_ret
    exact ⟨ret_bool (by simp), hS.out.below⟩

def scanP (r : List PairD) (i : Nat) (high : List UInt8) (limit : Int) : List PairD := ((r.drop i).takeWhile fun p => !Pl.ls high p.key.data.toList).take limit.toNat
theorem tw_cut {α : Type} (f : α → Bool) : ∀ (l : List α) (m : Nat), m ≤ l.length → (∀ (q : Nat) (hq : q < l.length), q < m → f l[q] = true) → l.takeWhile f = l.take m ++ (l.drop m).takeWhile f
  | l, 0, _, _ => rfl
  | [], m + 1, h, _ => absurd h (Nat.not_succ_le_zero m)
  | x :: t, m + 1, h, hp => by
    have hx := hp 0 (Nat.succ_pos _) (Nat.succ_pos _)
    simp only [List.getElem_cons_zero] at hx
    rw [List.takeWhile_cons, if_pos hx, List.take_succ_cons, List.drop_succ_cons, List.cons_append, tw_cut f t m (by simpa using h) (fun q hq hqm => by
      have := hp (q + 1) (by simpa using hq) (by omega)
      simpa using this)]
/-- What a scan has, wherever it ends. -/
theorem scan_end {r : List PairD} {i m : Nat} {high : List UInt8} {limit : Int} (hi : i + m ≤ r.length) (hp : ∀ (q : Nat) (hq : i + q < r.length), q < m → Pl.ls high r[i + q].key.data.toList = false) (hm : m = 0 ∨ (m : Int) ≤ limit)
    (he : i + m = r.length ∨ (∃ h : i + m < r.length, Pl.ls high r[i + m].key.data.toList = true) ∨ limit ≤ (m : Int)) : scanP r i high limit = (r.drop i).take m := by
  unfold scanP
  have hl : (r.drop i).length = r.length - i := List.length_drop
  rw [tw_cut _ (r.drop i) m (by omega) (fun q hq hqm => by
    rw [List.getElem_drop, hp q (by omega) hqm]
    rfl)]
  have hlm : ((r.drop i).take m).length = m := by rw [List.length_take]; omega
  rcases he with e | ⟨h, e⟩ | e
  · rw [List.drop_of_length_le (i := m) (by omega), List.takeWhile_nil, List.append_nil, List.take_take]
    rcases hm with h0 | h0
    · subst h0; rw [Nat.min_zero, List.take_zero]
    · rw [Nat.min_eq_right (by omega)]
  · rw [List.drop_drop, List.drop_eq_getElem_cons h, List.takeWhile_cons, if_neg (by rw [e]; simp), List.append_nil, List.take_take]
    rcases hm with h0 | h0
    · subst h0; rw [Nat.min_zero, List.take_zero]
    · rw [Nat.min_eq_right (by omega)]
  · rw [List.take_append_of_le_length (by omega), List.take_take, Nat.min_eq_left (by omega)]
    congr 1
    omega
theorem atO_nat (r : List PairD) (z : Nat) : atO r (z : Int) = r[z]? := by
  unfold atO
  rw [if_pos (by omega), Int.toNat_natCast]
theorem drop_take {r : List PairD} {i m : Nat} (h : i + m < r.length) : (r.drop i).take (m + 1) = (r.drop i).take m ++ [r[i + m]] := by
  rw [List.take_add_one, List.getElem?_drop, List.getElem?_eq_getElem h]
  rfl

theorem Ow.top3 {B : Nat} {W0 W : World} {p q r s : Nat × Obj} {R : List RowT} (h : Ow B W0 W [p, q, r, s] R) : Ow B W0 W [p, q, r] R := by
  have key : ∀ (i : Nat) (z : Nat × Obj), [p, q, r][i]? = some z → [p, q, r, s][i]? = some z := by
    intro i z hz
    rcases i with _ | _ | _ | i
    · exact hz
    · exact hz
    · exact hz
    · simp at hz
  exact ⟨⟨h.sx.below, h.sx.le, fun i g o hi => h.sx.has i g o (key i _ hi), fun i j a b hij hi hj => h.sx.ne i j a b hij (key i _ hi) (key j _ hj)⟩, h.own, h.ne, fun i j k a b hi hk hj => h.nl i j k a b hi hk (key j _ hj)⟩
theorem one_facts {W : World} {g : Nat} {a : Value} {T : TypeId} (h : W.heap[g]? = some (.cells #[a] T (0, 0))) : W.cell? ⟨g, 0, none⟩ = some a ∧ W.frozen? ⟨g, 0, none⟩ = false := ⟨by simp only [World.cell?, h]; rfl, heap_frozen h 0⟩
theorem Sx.start3 (w : World) (a b c : Obj) : Sx w.heap.size w (((w.alloc a).alloc b).alloc c) [(w.heap.size, a), (w.heap.size + 1, b), (w.heap.size + 1 + 1, c)] := by
  have := (Sx.start2 w a b).alloc c
  rw [alloc_size, alloc_size] at this
  exact this
set_option maxRecDepth 100000 in
set_option maxHeartbeats 4000000 in
theorem pmscan_any (T : Nat → Prop) (g : Nat) (ks : List ByteArray) (vs : List Int) (low high : ByteArray) (limit : Int) (A B : Option Addr) (ca cb : Nat) (w : World) (h : MapA T w g ks vs A ca B cb) (hv : ks.length = vs.length) (hlo : low.size ≤ maxLen) (hhi : high.size ≤ maxLen) (hl : ks.length ≤ 1000) :
    Calls Try.prog 54 #[.pointer (some ⟨g, 0, none⟩), .string low, .string high, .int .i64 limit] w (PrsRet (scanP (Pl.zipP ks vs) (Pl.findAt ks low.data.toList) high.data.toList limit) w) := by
  have HF := Lib.hid (fun W hW => pmfind_any T g ks vs low A B ca cb W hW hlo hl)
  have HA := Lib.hid (fun i W hW => pmat_any T g ks vs i A B ca cb W hW hv hl)
  have HM := Lib.hid h
  have HZL := Lib.hid (And.intro (Pl.zipP_len hv) (And.intro (Pl.findAt_le ks low.data.toList) hl))
  have HFP := Lib.hid (show ∀ (z : Nat) (hz : z < (Pl.zipP ks vs).length), (Pl.zipP ks vs)[z].key.size ≤ maxLen from fun z hz => by
    have h1 := Pl.zipP_len hv
    rw [Pl.zipP_at z (by omega) (by omega) hz]
    exact h.fit z (by omega))
  have HHI := Lib.hid hhi
  generalize Pl.findIs ks low.data.toList = hs at HF
  generalize Pl.findAt ks low.data.toList = i0 at HF HZL ⊢
  generalize Pl.zipP ks vs = r at HA HZL HFP ⊢
  clear h hv hlo hhi hl
  have hO := Ow.start (Sx.start3 w (.cells #[.string high] 9) (.cells #[.int .i64 limit] 3) (.cells #[.slice none 0 0] 53))
  have HO := Lib.hid (hO.nil 59 2)
  simp only [List.nil_append] at HO
  clear hO
  go_enter Try.func54, Try.ntmps54
  go_upto_region 1 with fail
  generalize ((w.alloc _).alloc _).alloc _ = W at HO ⊢
  go_wp2_with fail
  refine (HF.out _ (HM.out.up HO.out.below)).mono ?_
  rintro e wn ⟨rfl, hbn⟩
  replace HO := Lib.hid (HO.out.call hbn)
  clear hbn HF
  go_wp2_with fail
  go_loopw [10, 12, 13] (fun i _ _ wr => ∃ (m z : Nat) (A1 : Option Addr) (c1 : Nat), i = .int .i64 z ∧ Hid (z = i0 + m ∧ (i0 + m ≤ r.length ∧ (∀ (q : Nat) (hq : i0 + q < r.length), q < m → Pl.ls high.data.toList r[i0 + q].key.data.toList = false) ∧ (m = 0 ∨ (m : Int) ≤ limit)) ∧
    Ow w.heap.size w wr [(w.heap.size, .cells #[.string high] 9), (w.heap.size + 1, .cells #[.int .i64 limit] 3), (w.heap.size + 1 + 1, .cells #[.slice A1 m c1] 53)] [⟨59, 2, .slice A1 m c1, m, prRow ((r.drop i0).take m)⟩])) (fun i _ _ _ => r.length + 1 - (intOf i).toNat)
  case atStart => exact ⟨0, i0, none, 0, rfl, rfl, ⟨by have := HZL.out; omega, fun q _ hq => absurd hq (Nat.not_lt_zero _), .inl rfl⟩, HO.out⟩
  case round =>
    obtain ⟨m, z, A1, c1, rfl, H⟩ := hrel
    clear HO
    have HO := Lib.hid H.out.2.2
    have HS := Lib.hid H.out.2.1
    have HZ0 := Lib.hid H.out.1
    clear H
    have hzb : z ≤ 1000 := by have := HZ0.out; have := HS.out.1; have := HZL.out; omega
    have HAz := Lib.hid (HA.out (z : Int))
    rw [atO_nat] at HAz
    by_cases hlt : z < r.length
    · have HFz := Lib.hid (HFP.out z hlt)
      have HT := Lib.hid (show (r.drop i0).take (m + 1) = (r.drop i0).take m ++ [r[z]] by
        have e := HZ0.out
        subst e
        exact drop_take hlt)
      have HNO := Lib.hid (fun (q : Pl.ls high.data.toList r[z].key.data.toList = true) => show ∃ h : i0 + m < r.length, Pl.ls high.data.toList r[i0 + m].key.data.toList = true by
        have e := HZ0.out
        subst e
        exact ⟨hlt, q⟩)
      have HYES := Lib.hid (fun (q0 : Pl.ls high.data.toList r[z].key.data.toList = false) => show ∀ (q : Nat) (hq : i0 + q < r.length), q < m + 1 → Pl.ls high.data.toList r[i0 + q].key.data.toList = false from fun q hq hqm => by
        have e := HZ0.out
        subst e
        rcases Nat.lt_succ_iff_lt_or_eq.1 hqm with g1 | rfl
        · exact HS.out.2.1 q hq g1
        · exact q0)
      rw [List.getElem?_eq_getElem hlt] at HAz
      simp only [Option.getD_some, Option.isSome_some] at HAz
      generalize r[z] = p at HAz HFz HT HNO HYES
      have HCl := Lib.hid (fun W => pmscan1_any p high w.heap.size (w.heap.size + 1 + 1) (w.heap.size + 1) A1 m c1 limit W)
      generalize Pl.ls high.data.toList p.key.data.toList = rb at HCl HNO HYES
      simp only [prCells] at HAz HCl
      go_wp2_with fail
      refine (HAz.out _ (HM.out.up HO.out.below)).mono ?_
      rintro e w2 ⟨rfl, hbn⟩
      have hOw := (HO.out.call hbn).alloc (.cells #[.string p.key, .int .u64 p.val] 59)
      simp only [List.cons_append, List.nil_append] at hOw
      clear hbn HO HAz
      go_upto_region 5 with fail
      generalize w2.alloc _ = w3 at hOw ⊢
      generalize w2.heap.size = g3 at hOw ⊢
      obtain ⟨x0, x1, -, -⟩ := pr_facts (hOw.sx.has 3 _ _ rfl).1
      have HO := Lib.hid hOw
      clear hOw
      go_wp2_with fail
      refine (HCl.out _ (one_facts (HO.out.sx.has 0 _ _ rfl).1).1 (one_facts (HO.out.sx.has 2 _ _ rfl).1).1 (one_facts (HO.out.sx.has 1 _ _ rfl).1).1 (HO.out.sx.lt (i := 0) rfl) (HO.out.sx.lt (i := 2) rfl) (HO.out.sx.lt (i := 1) rfl) HFz.out HHI.out (by have := HS.out.1; have := HZL.out; omega)).mono ?_
      rintro e w4 ⟨rfl, hbn⟩
      replace HO := Lib.hid (HO.out.call hbn)
      clear hbn x0 x1 HCl
      cases rb
      · by_cases hlm : (m : Int) < limit
        · have hlb : decide ((m : Int) < limit) = true := decide_eq_true hlm
          obtain ⟨x0, x1, -, -⟩ := pr_facts (HO.out.sx.has 3 _ _ rfl).1
          obtain ⟨y0, q0⟩ := one_facts (HO.out.sx.has 2 _ _ rfl).1
          obtain ⟨A2, c2, W3, hrun, hc2, hO2⟩ := HO.out.pushP 53 (by kernel_rfl) 0 rfl p (by have := HS.out.1; have := HZL.out; omega)
          simp only [List.set_cons_zero] at hO2
          obtain ⟨z0, q1⟩ := one_facts (hO2.sx.has 2 _ _ rfl).1
          have hZ := (hO2.setc 2 rfl 0 (.slice A2 (m + 1) c2)).top3
          simp only [List.set_cons_zero, List.set_cons_succ] at hZ
          have HN := Lib.hid hZ
          have Hrun := Lib.hid hrun
          simp only [prCells] at Hrun
          have HYS := Lib.hid (HYES.out rfl)
          have HLM := Lib.hid hlm
          clear hrun hO2 hZ hlm HO
          go_wp2_with (at_builtin; refine wpList_append_run rfl (.tmp 38) (.tmp 40) 53 rfl rfl rfl Hrun.out ?_)
          go_roundw
          case rel => exact ⟨m + 1, z + 1, A2, c2, by go_num, by have := HZ0.out; omega, ⟨by have := HZ0.out; omega, HYS.out, .inr (by have := HLM.out; omega)⟩, by rw [HT.out]; exact HN.out⟩
          case measure => simp [intOf]; omega
        · have hlb : decide ((m : Int) < limit) = false := decide_eq_false hlm
          have HLM := Lib.hid hlm
          clear hlm
          obtain ⟨y0, q0⟩ := one_facts (HO.out.sx.has 2 _ _ rfl).1
          have hZ := HO.out.setc 2 rfl 0 (.slice A1 m c1)
          simp only [List.set_cons_zero, List.set_cons_succ] at hZ
          have HZ := Lib.hid hZ
          have HE := Lib.hid (scan_end HS.out.1 HS.out.2.1 HS.out.2.2 (.inr (.inr (by have := HLM.out; omega))))
          have HML := Lib.hid (show ((r.drop i0).take m).length = m by rw [List.length_take, List.length_drop]; have := HS.out.1; omega)
          clear hZ HO
          go_wp2_with fail
          exact bodyPost_ret (v := .slice A1 m c1) (by simp [results, Try.results54, go_sem, *]) rfl (by rw [HE.out]; exact ⟨A1, c1, by rw [HML.out], by rw [HML.out]; exact HZ.out.own 0 _ rfl, HZ.out.below⟩)
      · have HN2 := Lib.hid (HNO.out rfl)
        obtain ⟨y0, q0⟩ := one_facts (HO.out.sx.has 2 _ _ rfl).1
        have hZ := HO.out.setc 2 rfl 0 (.slice A1 m c1)
        simp only [List.set_cons_zero, List.set_cons_succ] at hZ
        have HZ := Lib.hid hZ
        have HE := Lib.hid (scan_end HS.out.1 HS.out.2.1 HS.out.2.2 (.inr (.inl HN2.out)))
        have HML := Lib.hid (show ((r.drop i0).take m).length = m by rw [List.length_take, List.length_drop]; have := HS.out.1; omega)
        clear hZ HO
        go_wp2_with fail
        exact bodyPost_ret (v := .slice A1 m c1) (by simp [results, Try.results54, go_sem, *]) rfl (by rw [HE.out]; exact ⟨A1, c1, by rw [HML.out], by rw [HML.out]; exact HZ.out.own 0 _ rfl, HZ.out.below⟩)
    · rw [List.getElem?_eq_none (by omega)] at HAz
      simp only [Option.getD_none, Option.isSome_none, prCells, Pl.zeroP] at HAz
      have HZE := Lib.hid (show i0 + m = r.length by have := HZ0.out; have := HS.out.1; omega)
      go_wp2_with fail
      refine (HAz.out _ (HM.out.up HO.out.below)).mono ?_
      rintro e w2 ⟨rfl, hbn⟩
      have hOw := (HO.out.call hbn).call (below_alloc w2 (.cells #[.string ⟨#[]⟩, .int .u64 0] 59))
      clear hbn HO HAz
      go_upto_region 5 with fail
      generalize w2.alloc _ = w3 at hOw ⊢
      have HO := Lib.hid hOw
      clear hOw
      obtain ⟨y0, q0⟩ := one_facts (HO.out.sx.has 2 _ _ rfl).1
      have hZ := HO.out.setc 2 rfl 0 (.slice A1 m c1)
      simp only [List.set_cons_zero, List.set_cons_succ] at hZ
      have HZ := Lib.hid hZ
      have HE := Lib.hid (scan_end HS.out.1 HS.out.2.1 HS.out.2.2 (.inl HZE.out))
      have HML := Lib.hid (show ((r.drop i0).take m).length = m by rw [List.length_take, List.length_drop]; have := HS.out.1; omega)
      clear hZ HO
      go_wp2_with fail
      exact bodyPost_ret (v := .slice A1 m c1) (by simp [results, Try.results54, go_sem, *]) rfl (by rw [HE.out]; exact ⟨A1, c1, by rw [HML.out], by rw [HML.out]; exact HZ.out.own 0 _ rfl, HZ.out.below⟩)

end Go.Proofs.Ytggjlnjpokdfpaa
