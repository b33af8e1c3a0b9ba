/- The law SipWrites: the walk. -/
import Derived.Test.YthbafbgnclpbpaaSip2
namespace Go.Proofs.Ythbafbgnclpbpaa
open Go.RowKit

theorem owns_off {S : Nat → Prop} {w w' : World} {B : Nat} {e : TypeId} {s n : Nat} {v : Value} {xs : List Value} (h : w.ownsRow B e s v n xs) (hb : Off S w w') (hs : ∀ k, v.ownBlock = some k → ¬ S k) : w'.ownsRow B e s v n xs := by
  refine ⟨h.1, ?_⟩
  rcases h.2 with hn | ⟨g, cap, cur, rfl, hb0, hgg, rest⟩
  · exact .inl hn
  · exact .inr ⟨g, cap, cur, rfl, hb0, (hb.block g (Array.getElem?_eq_some_iff.1 hgg).1 (hs g rfl)).trans hgg, rest⟩

/-- A pen, and a row of the law's own that has the same. -/
structure SW (B bp : Nat) (r : Option Nat) (A : Option Addr) (c : Nat) (L : List Nat) (w0 wr : World) : Prop where
  pen : PenAt wr bp r L
  row : wr.ownsRow B 5 1 (.slice A L.length c) L.length (u8s L)
  ne : ∀ k, (Value.slice A L.length c).ownBlock = some k → ¬ penS bp r k
  below : Below B w0 wr
  fresh : ∀ q, r = some q → B ≤ q
  bpB : B ≤ bp
theorem SW.up {B bp : Nat} {r : Option Nat} {A : Option Addr} {c : Nat} {L : List Nat} {w0 wr wx : World} (h : SW B bp r A c L w0 wr) (hb : Below wr.heap.size wr wx) : SW B bp r A c L w0 wx :=
  { h with pen := h.pen.below hb, row := owns_off h.row (Off.of_below hb (fun _ => False)) (fun _ _ q => q), below := h.below.trans (hb.mono (Nat.le_trans h.bpB (Nat.le_of_lt h.pen.lt.1))) }

/-- A row behind an own row. -/
theorem want_push {B : Nat} {w : World} {A A2 : Option Addr} {c c2 : Nat} {L m : List Nat} (ho : w.ownsRow B 5 1 (.slice A L.length c) L.length (u8s L)) (hB : B ≤ w.heap.size) (hr : Rd w w.heap.size 1 A2 m.length (u8s m)) (hm : 0 < m.length) (hl : L.length + m.length ≤ 1000000) (ty : TypeId) :
    ∃ A' c' w1, (Builtin.append_ #[38, 38] ty #[.slice A L.length c, .slice A2 m.length c2]).run Try.prog w = .ok (.slice A' (L.length + m.length) c') w1 ∧
      w1.ownsRow B 5 1 (.slice A' (L ++ m).length c') (L ++ m).length (u8s (L ++ m)) ∧ w.grownBy w1 (Value.slice A L.length c).ownBlock ∧ ((Value.slice A' (L ++ m).length c').ownBlock = (Value.slice A L.length c).ownBlock ∨ (Value.slice A' (L ++ m).length c').ownBlock = some w.heap.size) := by
  obtain ⟨i, hi, hz, hs, hb⟩ := info_parts pen_info
  obtain ⟨ad, rfl, hc⟩ := hr.src (by rw [u8s_length]; exact hm)
  obtain ⟨v', w1, hrun, h2, h3, _, h5⟩ := run_append_own_at (P := Try.prog) w B 38 ty 5 i (.int .u8 0) 1 1 Try.underlying38 hi hz hs hb rfl (by omega) (.slice A L.length c) L.length (u8s L) ho
    ad m.length c2 (u8s m) (by rw [u8s_length]; omega) hc (u8s_one m) (by unfold maxLen; omega) (by omega) hB
  obtain ⟨A', c', rfl, _⟩ := owns_slice h2
  rw [List.length_append]
  exact ⟨A', c', w1, hrun, by rw [u8s_append]; exact h2, h3, h5⟩

theorem SW.step {B bp : Nat} {r r2 : Option Nat} {A A' : Option Addr} {c c' : Nat} {L m : List Nat} {w0 wr w1 w2 w3 : World} (h : SW B bp r A c L w0 wr) (hb : Below wr.heap.size wr w1) (k : PenRel w1 bp r w2 r2 (L ++ m))
    (hrow : w3.ownsRow B 5 1 (.slice A' (L ++ m).length c') (L ++ m).length (u8s (L ++ m))) (hg : w2.grownBy w3 (Value.slice A L.length c).ownBlock) (hat : (Value.slice A' (L ++ m).length c').ownBlock = (Value.slice A L.length c).ownBlock ∨ (Value.slice A' (L ++ m).length c').ownBlock = some w2.heap.size) : SW B bp r2 A' c' (L ++ m) w0 w3 := by
  have hBw : B ≤ wr.heap.size := Nat.le_trans h.bpB (Nat.le_of_lt h.pen.lt.1)
  have hne2 : ∀ q, (Value.slice A L.length c).ownBlock = some q → ¬ penS bp r2 q := by
    intro q hq
    have hq1 := h.ne q hq
    have hlt := (h.row.lt q hq).2
    rintro (e | e)
    · exact hq1 (.inl e)
    · rcases k.2.2 with e2 | ⟨p, e2, hp⟩
      · exact hq1 (.inr (e.trans e2))
      · rw [e2] at e; injection e with e; have := hb.size; omega
  have hpl := k.1.lt
  obtain ⟨kb, kf⟩ := k.keeps (h.below.trans (hb.mono hBw)) (Nat.le_trans hBw hb.size) h.bpB h.fresh
  refine ⟨k.1.off (Off.of_grown hg) (fun q _ hs => hne2 q hs.symm), hrow, fun q hq => ?_, ?_, kf, h.bpB⟩
  · rcases hat with e | e
    · exact hne2 q (e.symm.trans hq)
    · rw [e] at hq; injection hq with hq
      rintro (e | e)
      · omega
      · have := hpl.2 q e.symm; omega
  · exact kb.grown hg (by have := k.2.1.size; have := hb.size; omega) (fun q hq => (h.row.lt q hq).1)

theorem SW.start {w : World} {B : Nat} {w0 : World} (hb : Below B w0 w) (hB : B ≤ w.heap.size) : SW B w.heap.size none none 0 [] w0 (w.alloc (.cells #[.slice none 0 0] 40)) :=
  ⟨pen_new w, World.ownsRow_nil _ _ _ _, fun k hk => (by cases hk), hb.alloc hB _, fun _ h => (by cases h), hB⟩

def itAll (xs : List It) : List Nat := xs.flatMap itBytes
theorem itAll_take (xs : List It) (j : Nat) (h : j < xs.length) : itAll (xs.take (j + 1)) = itAll (xs.take j) ++ itBytes xs[j] := flat_take itBytes xs j h
theorem itAll_len (xs : List It) (h : ∀ x ∈ xs, x.text.size ≤ 300) : (itAll xs).length ≤ 311 * xs.length := by
  unfold itAll
  induction xs with
  | nil => simp
  | cons x xs ih =>
    rw [List.flatMap_cons, List.length_append, List.length_cons]
    have h1 := (itBytes_len x).2
    have h2 := h x (by simp)
    have h3 := ih (fun y hy => h y (by simp [hy]))
    omega

set_option maxRecDepth 100000 in
set_option maxHeartbeats 4000000 in
theorem sipwrites_any (A : Option Addr) (c : Nat) (xs : List It) (w : World) (h : Its w A xs) (hx : ∀ x ∈ xs, ItOk x) (hl : xs.length ≤ 9223372036854775807) :
    Calls Try.prog 4 #[.slice A xs.length c] w (Ret (.bool true) w) := by
  go_enter Try.func4, Try.ntmps4
  go_wp2_with fail
  refine (light01_any A c xs w h hx hl).mono ?_
  rintro e w1 ⟨rfl, hb1⟩
  cases hli : light01 xs
  · clear hli
    go_wp2_with fail
    refine (lives01_any _).mono ?_
    rintro e w2 ⟨rfl, hb2⟩
    go_wp2_with fail
    go_ret
    exact ⟨rfl, below_of hb1 hb2⟩
  · have HL := Lib.hid (light01_spec hli)
    have HS := Lib.hid (SW.start hb1 hb1.size)
    have hbp : w.heap.size ≤ w1.heap.size := hb1.size
    clear hli
    go_wp2_with fail
    generalize w1.alloc (.cells #[.slice none 0 0] 40) = w2 at HS ⊢
    generalize w1.heap.size = bp at HS hbp ⊢
    clear hb1
    go_loopw [4, 6, 13] (fun want _ i wr => ∃ (j : Nat) (r A' : Option Nat) (V : Option Addr) (cv : Nat), i = .int .i64 j ∧ want = .slice V (itAll (xs.take j)).length cv ∧ Hid (j ≤ xs.length ∧ SW w.heap.size bp r V cv (itAll (xs.take j)) w wr)) (fun _ _ i _ => xs.length - (intOf i).toNat)
    case atStart => exact ⟨0, none, none, none, 0, rfl, rfl, Nat.zero_le _, HS.out⟩
    case round =>
      obtain ⟨j, r, _, V, cv, rfl, rfl, H⟩ := hrel
      by_cases hlt : j < xs.length
      · obtain ⟨b, off, rfl, hbl, d0, d1, d2, d3, d4⟩ := (h.up (H.out.2.below)).at_ hlt
        have hok := hx _ (List.getElem_mem hlt)
        have htx := HL.out.1 _ (List.getElem_mem hlt)
        have HT := Lib.hid (itAll_take xs j hlt)
        have hlen := itAll_len (xs.take j) (fun x hxm => HL.out.1 x (List.mem_of_mem_take hxm))
        rw [List.length_take] at hlen
        have hlen2 : (itAll (xs.take j)).length ≤ 20000 := by have := HL.out.2; omega
        generalize itAll (xs.take j) = L at H HT hlen2 ⊢
        clear hlen
        generalize hxj : xs[j] = x at d0 d1 d2 d3 d4 hok htx HT
        clear hxj
        have HB := Lib.hid (below_alloc wr (.cells (itCells x) 42))
        have HW := Lib.hid (write_any bp r L x (wr.alloc (.cells (itCells x) 42)) (H.out.2.pen.below HB.out) hok (by omega) (by omega))
        obtain ⟨kind, num, int, text, most⟩ := x
        simp only [] at d0 d1 d2 d3 d4 htx
        simp only [itCells] at HB HW
        have HK := Lib.hid (And.intro hok htx)
        clear hok htx
        go_wp2_with fail
        refine HW.out.mono ?_
        rintro e w3 ⟨A2, c2, r2, rfl, hrd, hrel3⟩
        have hil := itBytes_len ⟨kind, num, int, text, most⟩
        simp only [] at hil
        generalize itBytes ⟨kind, num, int, text, most⟩ = m at hil hrd hrel3 HT ⊢
        have htx := HK.out.2
        have hso := SW.up H.out.2 HB.out
        have hpw := hso.pen.lt
        have hB3 : w.heap.size ≤ w3.heap.size := by have := hrel3.2.1.size; have := hso.bpB; omega
        have ho3 : w3.ownsRow w.heap.size 5 1 (.slice V L.length cv) L.length (u8s L) := owns_off hso.row hrel3.2.1 hso.ne
        obtain ⟨A', c', w4, hrun, h2, h3, h5⟩ := want_push (c2 := c2) ho3 hB3 hrd (by omega) (by omega) 38
        have Hrun := Lib.hid hrun
        have HN := Lib.hid (And.intro (H.out.2.step HB.out hrel3 h2 h3 h5) hil)
        clear hrun h2 h3 h5 ho3 hB3 hpw hso hrd hrel3 hil htx HW HB
        go_upto_region 9 with (at_builtin; refine wpList_append_run rfl (.tmp 17) (.tmp 19) 38 rfl rfl rfl Hrun.out ?_)
        have hl2 : L.length + m.length = (L ++ m).length := by rw [List.length_append]
        have hL2 : (L ++ m).length ≤ 30000 := by have := HN.out.2; have := HK.out.2; rw [List.length_append]; omega
        rw [hl2]
        clear Hrun hl2
        generalize L ++ m = L2 at HN HT hL2 ⊢
        go_cut [31] (fun s wx => s = .bool false ∧ Below w4.heap.size w4 wx)
        case first =>
          have hcur : Below w4.heap.size w4 w4.drew := Below.drew (Below.refl _ _)
          have hc1 := made_conv (SW.up HN.out.1 hcur).row
          first | go_region_with (first | (go_at_call 27; refine (penlen_any bp r2 L2 _ (SW.up HN.out.1 hcur).pen (by omega)).mono ?_; rintro e wn ⟨rfl, rfl⟩) | (go_at_call 28; refine (penbytes_any bp r2 L2 _ (SW.up HN.out.1 hcur).pen (by omega)).mono ?_; rintro e wn ⟨A3, c3, rfl, ho3, hb3⟩; replace hcur := below_of hcur hb3; have hc2 := made_conv ho3; have hc1' := made_conv (SW.up HN.out.1 hcur).row)) | fail
          all_goals
            go_wp2_with fail
            go_meet
            exact ⟨rfl, hcur⟩
        case rest =>
          obtain ⟨rfl, hbx⟩ := hcut
          go_wp2_with fail
          go_round
          case rel =>
            refine ⟨j + 1, r2, none, A', c', by go_num, by rw [HT.out], by omega, ?_⟩
            rw [HT.out]
            exact SW.up HN.out.1 hbx
          case measure => simp [intOf]; omega
      · go_wp2_with fail
        refine (lives01_any _).mono ?_
        rintro e w3 ⟨rfl, hb3⟩
        go_wp2_with fail
        go_ret
        exact ⟨rfl, below_of H.out.2.below hb3⟩

end Go.Proofs.Ythbafbgnclpbpaa
