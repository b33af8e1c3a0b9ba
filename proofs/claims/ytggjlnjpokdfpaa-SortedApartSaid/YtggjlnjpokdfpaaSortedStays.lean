/- The law SortedStays returns true at every row of texts, text and two numbers. No condition. -/
import Derived.Test.YtggjlnjpokdfpaaSortedLaw
namespace Go.Proofs.Ytggjlnjpokdfpaa
open Go.RowKit

theorem Fits.mem {ss : List ByteArray} (h : Fits ss) : ∀ s ∈ ss, s.size ≤ maxLen := by
  intro s hs
  obtain ⟨j, hj, rfl⟩ := List.getElem_of_mem hs
  exact h j hj
theorem Fits.of {ss : List ByteArray} (h : ∀ s ∈ ss, s.size ≤ maxLen) : Fits ss := fun j hj => h _ (List.getElem_mem hj)
theorem Fits.sub {ss ts : List ByteArray} (h : Fits ss) (hs : ∀ s ∈ ts, s ∈ ss) : Fits ts := Fits.of fun s m => h.mem s (hs s m)
theorem mem_ins {α : Type} {xs : List α} {k : Nat} {x y : α} (h : y ∈ ins xs k x) : y = x ∨ y ∈ xs := by
  unfold ins at h
  rw [List.mem_append, List.mem_cons] at h
  rcases h with h | h | h
  · exact .inr (List.mem_of_mem_take h)
  · exact .inl h
  · exact .inr (List.mem_of_mem_drop h)
theorem mem_ins_self {α : Type} (xs : List α) (k : Nat) (x : α) : x ∈ ins xs k x := by simp [ins]
theorem part_sub {α : Type} (xs : List α) (i j : Int) : List.Sublist (part xs i j) xs := (List.take_sublist _ _).trans (List.drop_sublist _ _)

theorem RdS.of_new {w : World} {g n : Nat} {ss : List ByteArray} {E : TypeId} {fr : Nat × Nat} (h : w.heap[g]? = some (.cells (strs ss).toArray E fr)) (hn : n = ss.length) : RdS w (some ⟨g, 0, none⟩) n ss := by
  subst hn
  have := Rd.new h
  rwa [strs_length] at this
theorem RdS.of_newly {w w' : World} {E : TypeId} {A : Option Addr} {ss : List ByteArray} (h : Newly w w' E A (strs ss)) : RdS w' A (strs ss).length ss := h.rd

theorem RdS.nil (w : World) (A : Option Addr) : RdS w A 0 [] := Rd.nil _ _ _ _

/-- A text put where it would be: the row rises. -/
theorem rises_ins {ss : List ByteArray} {k : ByteArray} (h : Pl.rises ss = true) (hi : Pl.findIs ss k.data.toList = false) : Pl.rises (ins ss (Pl.findAt ss k.data.toList) k) = true := by
  obtain ⟨h1, h2⟩ := Pl.findAt_spec h k.data.toList
  have h3 : ∀ i, Pl.findAt ss k.data.toList ≤ i → i < ss.length → Pl.ls k.data.toList (Pl.tx ss i) = true := by
    intro i hge hlt
    cases hh : Pl.ls k.data.toList (Pl.tx ss i) with
    | true => rfl
    | false =>
      have e := Pl.ls_total _ _ (h2 i hge hlt) hh
      have := (Pl.findIs_iff h k.data.toList).2 ⟨i, hlt, e⟩
      rw [hi] at this; cases this
  have hup := (Pl.rises_up ss).1 h
  rw [Pl.rises_up]
  unfold ins Pl.Up
  rw [List.pairwise_append, List.pairwise_cons]
  have hd : ∀ s ∈ ss.drop (Pl.findAt ss k.data.toList), Pl.ls k.data.toList s.data.toList = true := by
    intro s hs
    obtain ⟨j, hj, rfl⟩ := List.getElem_of_mem hs
    rw [List.length_drop] at hj
    have := h3 (Pl.findAt ss k.data.toList + j) (by omega) (by omega)
    rw [Pl.tx_eq ss _ (by omega)] at this
    rwa [List.getElem_drop]
  have ht : ∀ s ∈ ss.take (Pl.findAt ss k.data.toList), Pl.ls s.data.toList k.data.toList = true := by
    intro s hs
    obtain ⟨j, hj, rfl⟩ := List.getElem_of_mem hs
    rw [List.length_take] at hj
    have := h1 j (by omega)
    rw [Pl.tx_eq ss _ (by omega)] at this
    rwa [List.getElem_take]
  refine ⟨hup.sub (List.take_sublist _ _), ⟨hd, hup.sub (List.drop_sublist _ _)⟩, ?_⟩
  intro s hs t hts
  rw [List.mem_cons] at hts
  rcases hts with rfl | hts
  · exact ht s hs
  · exact Pl.ls_trans _ _ _ (ht s hs) (hd t hts)

/-- What holds of the row behind the 'if'. -/
def MRel (w wx : World) (s : Value) : Prop :=
  ∃ (A : Option Addr) (n c : Nat) (ts : List ByteArray), s = .slice A n c ∧ RdS wx A n ts ∧ n ≤ c ∧ n ≤ 101 ∧ Pl.rises ts = true ∧ Fits ts ∧ Below w.heap.size w wx

set_option maxRecDepth 100000 in
set_option maxHeartbeats 1000000 in
theorem sortedstays_walk (A : Option Addr) (n c : Nat) (ss : List ByteArray) (k : ByteArray) (i j : Int) (w : World) (h : RdS w A n ss ∧ Fits ss ∧ n ≤ c ∧ n ≤ 9223372036854775807) (hk : k.size ≤ maxLen)
    (_hi : -9223372036854775808 ≤ i ∧ i ≤ 9223372036854775807) (_hj : -9223372036854775808 ≤ j ∧ j ≤ 9223372036854775807) :
    Calls Try.prog 7 #[.slice A n c, .string k, .int .i64 i, .int .i64 j] w (Ret (.bool true) w) := by
  obtain ⟨h, hf, hnc, hn⟩ := h
  have HB := Below.refl w.heap.size w
  have hlen := Lib.hid h.len
  cases hl : lightB ss k
  · have Hl := Lib.hid hl
    clear hl
    go_enter Try.func7, Try.ntmps7
    go_wp2_with fail
    refine (light4_any A n c ss k _ h hn hf hk).mono ?_
    rintro e wn ⟨rfl, hbn⟩
    replace HB := below_of (show Below w.heap.size w _ from (by first | exact HB | exact below_drewN HB _ | exact Below.drew HB | exact below_of HB (below_alloc _ _) | exact below_of (below_drewN HB _) (below_alloc _ _))) hbn
    clear hbn
    rw [Hl.out]
    go_wp2_with fail
    refine (lives4_any _).mono ?_
    rintro e wn ⟨rfl, hbn⟩
    replace HB := below_of (show Below w.heap.size w _ from (by first | exact HB | exact below_drewN HB _ | exact Below.drew HB | exact below_of HB (below_alloc _ _) | exact below_of (below_drewN HB _) (below_alloc _ _))) hbn
    clear hbn
    go_wp2_with fail
    go_ret
    exact ⟨rfl, HB⟩
  have hL := lightB_spec hl
  have hn100 : n ≤ 100 := by rw [← hlen.out]; exact hL.2.1
  have Hl := Lib.hid hl
  clear hl hL
  cases hr : Pl.rises ss
  · have Hr := Lib.hid hr
    clear hr
    go_enter Try.func7, Try.ntmps7
    go_wp2_with fail
    refine (light4_any A n c ss k _ h hn hf hk).mono ?_
    rintro e wn ⟨rfl, hbn⟩
    replace HB := below_of (show Below w.heap.size w _ from (by first | exact HB | exact below_drewN HB _ | exact Below.drew HB | exact below_of HB (below_alloc _ _) | exact below_of (below_drewN HB _) (below_alloc _ _))) hbn
    clear hbn
    rw [Hl.out]
    go_wp2_with fail
    refine (refrising_any A n c ss _ (h.up HB) hf hn).mono ?_
    rintro e wn ⟨rfl, hbn⟩
    replace HB := below_of (show Below w.heap.size w _ from (by first | exact HB | exact below_drewN HB _ | exact Below.drew HB | exact below_of HB (below_alloc _ _) | exact below_of (below_drewN HB _) (below_alloc _ _))) hbn
    clear hbn
    rw [Hr.out]
    go_wp2_with fail
    refine (lives4_any _).mono ?_
    rintro e wn ⟨rfl, hbn⟩
    replace HB := below_of (show Below w.heap.size w _ from (by first | exact HB | exact below_drewN HB _ | exact Below.drew HB | exact below_of HB (below_alloc _ _) | exact below_of (below_drewN HB _) (below_alloc _ _))) hbn
    clear hbn
    go_wp2_with fail
    go_ret
    exact ⟨rfl, HB⟩
  have Hr := Lib.hid hr
  clear hr
  have hat := Lib.hid (Pl.findAt_le ss k.data.toList)
  go_enter Try.func7, Try.ntmps7
  go_wp2_with fail
  refine (light4_any A n c ss k _ h hn hf hk).mono ?_
  rintro e wn ⟨rfl, hbn⟩
  replace HB := below_of (show Below w.heap.size w _ from (by first | exact HB | exact below_drewN HB _ | exact Below.drew HB | exact below_of HB (below_alloc _ _) | exact below_of (below_drewN HB _) (below_alloc _ _))) hbn
  clear hbn
  rw [Hl.out]
  go_wp2_with fail
  refine (refrising_any A n c ss _ (h.up HB) hf hn).mono ?_
  rintro e wn ⟨rfl, hbn⟩
  replace HB := below_of (show Below w.heap.size w _ from (by first | exact HB | exact below_drewN HB _ | exact Below.drew HB | exact below_of HB (below_alloc _ _) | exact below_of (below_drewN HB _) (below_alloc _ _))) hbn
  clear hbn
  rw [Hr.out]
  go_wp2_with fail
  refine (find_any A n c ss k _ (h.up HB) hf hk hn).mono ?_
  rintro e wn ⟨rfl, hbn⟩
  replace HB := below_of (show Below w.heap.size w _ from (by first | exact HB | exact below_drewN HB _ | exact Below.drew HB | exact below_of HB (below_alloc _ _) | exact below_of (below_drewN HB _) (below_alloc _ _))) hbn
  clear hbn
  go_upto_if 33 with fail
  go_cut [10, 11] (fun _ s wx => MRel w wx s)
  case first =>
    have hat' : Pl.findAt ss k.data.toList ≤ n := by rw [← hlen.out]; exact hat.out
    cases his : Pl.findIs ss k.data.toList
    · have His := Lib.hid his
      clear his
      go_wp2_with fail
      refine (addS_yes A n c _ k (strs ss) _ (h.up HB) (strs_one ss) (by omega) hnc (by omega) (by omega)).mono ?_
      rintro e w1 ⟨rfl, HG, hbn⟩
      rw [Int.toNat_natCast, strs_ins] at HG
      have hr1 : RdS w1 (some ⟨wn.heap.size, 0, none⟩) (n + 1) (ins ss (Pl.findAt ss k.data.toList) k) := RdS.of_new HG (by rw [ins_length _ _ _ hat.out, hlen.out])
      have HB1 := below_of HB hbn
      have Hins := Lib.hid (rises_ins Hr.out His.out)
      have hhas : hasB (ins ss (Pl.findAt ss k.data.toList) k) k = true := (hasB_iff _ _).2 (mem_ins_self _ _ _)
      have Hhas := Lib.hid hhas
      have hf1 : Fits (ins ss (Pl.findAt ss k.data.toList) k) := Fits.of fun s hs => by
        rcases mem_ins hs with rfl | hs
        · exact hk
        · exact hf.mem s hs
      have t1 : ((n : Int) + 1 != (n : Int) + 1) = false := by simp
      clear HG hhas hbn
      generalize ins ss (Pl.findAt ss k.data.toList) k = ts at hr1 Hins Hhas hf1
      go_wp2_with fail
      refine (refhas_any _ _ _ ts k _ hr1 (by omega)).mono ?_
      rintro e w2 ⟨rfl, hb2⟩
      rw [Hhas.out]
      go_wp2_with fail
      go_meet
      exact ⟨_, _, _, ts, rfl, hr1.up hb2, by omega, by omega, Hins.out, hf1, below_of HB1 hb2⟩
    · have His := Lib.hid his
      clear his
      go_wp2_with fail
      go_meet
      exact ⟨A, n, c, ss, rfl, h.up HB, hnc, by omega, Hr.out, hf, HB⟩
  case rest =>
    obtain ⟨A1, n1, c1, ts, rfl, hr1, hc1, hn1, hrs, hf1, HB1⟩ := hcut
    clear HB
    have HB := HB1
    clear HB1 h hf hnc hn hlen hn100 Hl Hr hat
    have hl1 := Lib.hid hr1.len
    have Hup := Lib.hid ((Pl.rises_up ts).1 hrs)
    have Hrs := Lib.hid hrs
    clear hrs
    have Hp : Hid (Pl.rises (part ts i j) = true) := (Pl.rises_up _).2 (Hup.out.sub (part_sub ts i j))
    have hfp : Fits (part ts i j) := hf1.sub fun s hs => (part_sub ts i j).subset hs
    have hlp : (part ts i j).length ≤ 101 := by have := (part_sub ts i j).length_le; have := hl1.out; omega
    have t1 : ((n1 : Int) - 1 != (n1 : Int) - 1) = false := by simp
    by_cases hin : 0 ≤ i ∧ i < n1
    · obtain ⟨hi0, hin⟩ := hin
      have Hc : Hid (Pl.rises (ts.eraseIdx i.toNat) = true) := (Pl.rises_up _).2 (Hup.out.sub (List.eraseIdx_sublist _ _))
      have hfc : Fits (ts.eraseIdx i.toNat) := hf1.sub fun s hs => (List.eraseIdx_sublist _ _).subset hs
      go_wp2_with fail
      refine (cutS_yes A1 n1 c1 i (strs ts) _ hr1 (strs_one ts) (by omega) hc1 hi0 hin).mono ?_
      rintro e w1 ⟨rfl, HG, hbn⟩
      rw [strs_erase] at HG
      have hrc : RdS w1 (some ⟨wc.heap.size, 0, none⟩) (n1 - 1) (ts.eraseIdx i.toNat) := RdS.of_new HG (by have := hl1.out; rw [List.length_eraseIdx]; rw [if_pos (by omega)]; omega)
      have hr1 := hr1.up hbn
      have HB := below_of HB hbn
      clear HG hbn
      have t2 : (((n1 - 1 : Nat) : Int) != (n1 : Int) - 1) = false := by rw [bne_eq_false_iff_eq]; omega
      go_wp2_with fail
      refine (refrising_any A1 n1 c1 ts _ hr1 hf1 (by omega)).mono ?_
      rintro e w2 ⟨rfl, hbr⟩
      replace hr1 := hr1.up hbr
      replace HB := below_of HB hbr
      rw [Hrs.out]
      go_wp2_with fail
      refine (refrising_any _ _ _ _ _ (hrc.up hbr) hfc (by omega)).mono ?_
      rintro e w3 ⟨rfl, hbs⟩
      replace hr1 := hr1.up hbs
      replace HB := below_of HB hbs
      rw [Hc.out]
      go_wp2_with fail
      refine (partS_any A1 n1 c1 i j (strs ts) _ hr1 (strs_one _) (by omega) hc1).mono ?_
      rintro e w4 ⟨A', rfl, hnew, hbt⟩
      rw [strs_part] at hnew
      rw [strs_part, strs_length]
      have hrp := RdS.of_newly hnew
      rw [strs_length] at hrp
      replace HB := below_of HB hbt
      clear hnew
      go_wp2_with fail
      refine (refrising_any _ _ _ _ _ hrp hfp (by omega)).mono ?_
      rintro e w5 ⟨rfl, hbu⟩
      replace HB := below_of HB hbu
      rw [Hp.out]
      go_wp2_with fail
      refine (lives4_any _).mono ?_
      rintro e wn ⟨rfl, hbn⟩
      replace HB := below_of (show Below w.heap.size w _ from (by first | exact HB | exact below_drewN HB _ | exact Below.drew HB | exact below_of HB (below_alloc _ _) | exact below_of (below_drewN HB _) (below_alloc _ _))) hbn
      clear hbn
      go_wp2_with fail
      go_ret
      exact ⟨rfl, HB⟩
    · have hno : i < 0 ∨ (n1 : Int) ≤ i := by omega
      clear hin
      rcases hno with h0 | h0
      · go_wp2_with fail
        refine (cutS_no A1 n1 c1 i _ (by omega)).mono ?_
        rintro e w1 ⟨rfl, hbn⟩
        have hr1 := hr1.up hbn
        have HB := below_of HB hbn
        have Hc : Hid (Pl.rises [] = true) := rfl
        have hfc : Fits [] := fun j hj => absurd hj (Nat.not_lt_zero _)
        clear hbn
        go_wp2_with fail
        refine (refrising_any A1 n1 c1 ts _ hr1 hf1 (by omega)).mono ?_
        rintro e w2 ⟨rfl, hbr⟩
        replace hr1 := hr1.up hbr
        replace HB := below_of HB hbr
        rw [Hrs.out]
        go_wp2_with fail
        refine (refrising_any _ _ _ _ _ (RdS.nil _ none) hfc (by omega)).mono ?_
        rintro e w3 ⟨rfl, hbs⟩
        replace hr1 := hr1.up hbs
        replace HB := below_of HB hbs
        rw [Hc.out]
        go_wp2_with fail
        refine (partS_any A1 n1 c1 i j (strs ts) _ hr1 (strs_one _) (by omega) hc1).mono ?_
        rintro e w4 ⟨A', rfl, hnew, hbt⟩
        rw [strs_part] at hnew
        rw [strs_part, strs_length]
        have hrp := RdS.of_newly hnew
        rw [strs_length] at hrp
        replace HB := below_of HB hbt
        clear hnew
        go_wp2_with fail
        refine (refrising_any _ _ _ _ _ hrp hfp (by omega)).mono ?_
        rintro e w5 ⟨rfl, hbu⟩
        replace HB := below_of HB hbu
        rw [Hp.out]
        go_wp2_with fail
        refine (lives4_any _).mono ?_
        rintro e wn ⟨rfl, hbn⟩
        replace HB := below_of (show Below w.heap.size w _ from (by first | exact HB | exact below_drewN HB _ | exact Below.drew HB | exact below_of HB (below_alloc _ _) | exact below_of (below_drewN HB _) (below_alloc _ _))) hbn
        clear hbn
        go_wp2_with fail
        go_ret
        exact ⟨rfl, HB⟩
      · have h0' : 0 ≤ i := by omega
        go_wp2_with fail
        refine (cutS_no A1 n1 c1 i _ (by omega)).mono ?_
        rintro e w1 ⟨rfl, hbn⟩
        have hr1 := hr1.up hbn
        have HB := below_of HB hbn
        have Hc : Hid (Pl.rises [] = true) := rfl
        have hfc : Fits [] := fun j hj => absurd hj (Nat.not_lt_zero _)
        clear hbn
        go_wp2_with fail
        refine (refrising_any A1 n1 c1 ts _ hr1 hf1 (by omega)).mono ?_
        rintro e w2 ⟨rfl, hbr⟩
        replace hr1 := hr1.up hbr
        replace HB := below_of HB hbr
        rw [Hrs.out]
        go_wp2_with fail
        refine (refrising_any _ _ _ _ _ (RdS.nil _ none) hfc (by omega)).mono ?_
        rintro e w3 ⟨rfl, hbs⟩
        replace hr1 := hr1.up hbs
        replace HB := below_of HB hbs
        rw [Hc.out]
        go_wp2_with fail
        refine (partS_any A1 n1 c1 i j (strs ts) _ hr1 (strs_one _) (by omega) hc1).mono ?_
        rintro e w4 ⟨A', rfl, hnew, hbt⟩
        rw [strs_part] at hnew
        rw [strs_part, strs_length]
        have hrp := RdS.of_newly hnew
        rw [strs_length] at hrp
        replace HB := below_of HB hbt
        clear hnew
        go_wp2_with fail
        refine (refrising_any _ _ _ _ _ hrp hfp (by omega)).mono ?_
        rintro e w5 ⟨rfl, hbu⟩
        replace HB := below_of HB hbu
        rw [Hp.out]
        go_wp2_with fail
        refine (lives4_any _).mono ?_
        rintro e wn ⟨rfl, hbn⟩
        replace HB := below_of (show Below w.heap.size w _ from (by first | exact HB | exact below_drewN HB _ | exact Below.drew HB | exact below_of HB (below_alloc _ _) | exact below_of (below_drewN HB _) (below_alloc _ _))) hbn
        clear hbn
        go_wp2_with fail
        go_ret
        exact ⟨rfl, HB⟩
end Go.Proofs.Ytggjlnjpokdfpaa
