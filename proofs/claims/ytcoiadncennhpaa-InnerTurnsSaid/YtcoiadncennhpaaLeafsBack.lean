/- The law LeafsBack: the walk. -/
import Derived.Test.YtcoiadncennhpaaLeafLives2
namespace Go.Proofs.Ytcoiadncennhpaa
open Go.RowKit

/-- A node in a variable, and its rows. -/
structure Nb (X : World) (g : Nat) (N : Nd) (A B C : Option Addr) (ca cb cc : Nat) : Prop where
  box : X.heap[g]? = some (.cells (ndCells N A B C ca cb cc) 26 (0, 0))
  lies : Lies X N A B C ca cb cc
theorem Nb.up {X X' : World} {g : Nat} {N : Nd} {A B C : Option Addr} {ca cb cc : Nat} (h : Nb X g N A B C ca cb cc) (hb : Below X.heap.size X X') : Nb X' g N A B C ca cb cc :=
  ⟨(hb.block _ (Array.getElem?_eq_some_iff.1 h.box).1).trans h.box, h.lies.up hb⟩
theorem ndChk_zero {d : Nd} {fan : Int} (h : ndChk d fan = 0) : soundB d fan = true ∧ 4 ≤ fan ∧ fan ≤ 64 := by
  unfold ndChk at h
  split at h
  · cases h
  · split at h
    · exact ⟨by assumption, by omega, by omega⟩
    · cases h
theorem ndChk_ok {d : Nd} {fan : Int} (h : soundB d fan = true) (h2 : 4 ≤ fan ∧ fan ≤ 64) : ndChk d fan = 0 := (if_neg (by omega)).trans (if_pos h)
theorem findD_has {d : Nd} {k : ByteArray} (h : leafB d = true) : (findD d k).2 = hasD d k := by
  have h' := (leafB_iff d).1 h
  unfold findD
  cases hh : hasD d k
  · rw [if_neg (by simp)]
  · have := (at_lt hh).1
    rw [if_pos ⟨rfl, by omega⟩]
theorem putD_shape (d : Nd) (k : ByteArray) (v : Int) : putD d k v = ⟨d.level, d.low, d.high, d.last, d.next, (putD d k v).keys, (putD d k v).vals, d.kids⟩ := by
  unfold putD
  split <;> rfl

set_option maxRecDepth 100000 in
set_option maxHeartbeats 16000000 in
theorem leafsback_any (d : Nd) (k : ByteArray) (v fan : Int) (A B C : Option Addr) (ca cb cc : Nat) (w : World) (h : Lies w d A B C ca cb cc) (hk : k.size ≤ maxLen) :
    Calls Try.prog 8 #[.agg (ndCells d A B C ca cb cc), .string k, .int .u64 v, .int .i64 fan] w (Ret (.bool true) w) := by
  have hba := below_alloc w (.cells (ndCells d A B C ca cb cc) 26)
  have HN := Lib.hid (And.intro (show Nb _ w.heap.size d A B C ca cb cc from ⟨heap_alloc_new w _, h.up hba⟩) hba)
  have HLi := Lib.hid (fun W hW => lightN_any d A B C ca cb cc W hW)
  have HCk := Lib.hid (fun W hW => ndcheck_any d fan A B C ca cb cc W hW)
  have HFi := Lib.hid (fun W hW => nodefind_any d k A B C ca cb cc W hW hk)
  have HWi := Lib.hid (fun W hW => leafwith_any d k v fan A B C ca cb cc W hW hk)
  have hks : k.size ≤ 9223372036854775807 := hk
  clear hba h
  cases hli : lightN d
  · rw [hli] at HLi
    clear hli HCk HFi HWi
    obtain ⟨level, low, high, last, next, keys, vals, kids⟩ := d
    simp only [ndCells] at HN HLi ⊢
    (try simp only [ndCells] at HCk)
    (try simp only [ndCells] at HFi)
    (try simp only [ndCells] at HWi)
    go_enter Try.func8, Try.ntmps8
    go_upto_region 1 with fail
    generalize w.alloc _ = W at HN ⊢
    have hbx := HN.out.1.box
    simp only [ndCells] at hbx
    obtain ⟨x0, x1, x2, x3, x4, x5, x6, x7, -, -, -, -, -, -, -, -⟩ := nd_facts hbx
    clear hbx
    go_wp2_with fail
    refine (HLi.out _ HN.out.1.lies).mono ?_
    rintro e W ⟨rfl, hbn⟩
    clear x0 x1 x2 x3 x4 x5 x6 x7
    replace HN := Lib.hid (And.intro (HN.out.1.up hbn) (below_of HN.out.2 hbn))
    clear hbn
    have hbx := HN.out.1.box
    simp only [ndCells] at hbx
    obtain ⟨x0, x1, x2, x3, x4, x5, x6, x7, -, -, -, -, -, -, -, -⟩ := nd_facts hbx
    clear hbx
    go_wp2_with fail
    refine (lives11_any _).mono ?_
    rintro e w9 ⟨rfl, hb9⟩
    go_wp2_with fail
    go_ret
    exact ⟨rfl, below_of HN.out.2 hb9⟩
  · rw [hli] at HLi
    by_cases hk100 : 100 < k.size
    · have hk100' : decide ((100 : Int) < (k.size : Int)) = true := decide_eq_true (by omega)
      clear hli HCk HFi HWi hk100
      obtain ⟨level, low, high, last, next, keys, vals, kids⟩ := d
      simp only [ndCells] at HN HLi ⊢
      (try simp only [ndCells] at HCk)
      (try simp only [ndCells] at HFi)
      (try simp only [ndCells] at HWi)
      go_enter Try.func8, Try.ntmps8
      go_upto_region 1 with fail
      generalize w.alloc _ = W at HN ⊢
      have hbx := HN.out.1.box
      simp only [ndCells] at hbx
      obtain ⟨x0, x1, x2, x3, x4, x5, x6, x7, -, -, -, -, -, -, -, -⟩ := nd_facts hbx
      clear hbx
      go_wp2_with fail
      refine (HLi.out _ HN.out.1.lies).mono ?_
      rintro e W ⟨rfl, hbn⟩
      clear x0 x1 x2 x3 x4 x5 x6 x7
      replace HN := Lib.hid (And.intro (HN.out.1.up hbn) (below_of HN.out.2 hbn))
      clear hbn
      have hbx := HN.out.1.box
      simp only [ndCells] at hbx
      obtain ⟨x0, x1, x2, x3, x4, x5, x6, x7, -, -, -, -, -, -, -, -⟩ := nd_facts hbx
      clear hbx
      go_wp2_with fail
      refine (lives11_any _).mono ?_
      rintro e w9 ⟨rfl, hb9⟩
      go_wp2_with fail
      go_ret
      exact ⟨rfl, below_of HN.out.2 hb9⟩
    · have hk100' : decide ((100 : Int) < (k.size : Int)) = false := decide_eq_false (by omega)
      clear hk100
      by_cases hc : ndChk d fan = 0
      · rw [hc] at HCk
        obtain ⟨hso, hfan⟩ := ndChk_zero hc
        by_cases hlv : d.level = 0
        · have hlf := sound_leaf hso hlv hfan.2
          have hfd := findD_has (k := k) hlf
          have hbl := fun hok => back_law (k := k) (v := v) hso hlv hok
          have hps := putD_shape d k v
          generalize findD d k = fd at HFi hfd
          obtain ⟨u0, there⟩ := fd
          simp only [] at hfd HFi
          cases hok : (withD d k v fan).1
          · generalize withD d k v fan = o at HWi hok
            obtain ⟨ok, N1⟩ := o
            simp only [] at hok
            subst hok
            clear hli hc hso hfan hlf hfd hbl hps
            obtain ⟨level, low, high, last, next, keys, vals, kids⟩ := d
            simp only [] at hlv
            subst hlv
            simp only [ndCells] at HN HLi ⊢
            (try simp only [ndCells] at HCk)
            (try simp only [ndCells] at HFi)
            (try simp only [ndCells] at HWi)
            go_enter Try.func8, Try.ntmps8
            go_upto_region 1 with fail
            generalize w.alloc _ = W at HN ⊢
            have hbx := HN.out.1.box
            simp only [ndCells] at hbx
            obtain ⟨x0, x1, x2, x3, x4, x5, x6, x7, -, -, -, -, -, -, -, -⟩ := nd_facts hbx
            clear hbx
            go_wp2_with fail
            refine (HLi.out _ HN.out.1.lies).mono ?_
            rintro e W ⟨rfl, hbn⟩
            clear x0 x1 x2 x3 x4 x5 x6 x7
            replace HN := Lib.hid (And.intro (HN.out.1.up hbn) (below_of HN.out.2 hbn))
            clear hbn
            have hbx := HN.out.1.box
            simp only [ndCells] at hbx
            obtain ⟨x0, x1, x2, x3, x4, x5, x6, x7, -, -, -, -, -, -, -, -⟩ := nd_facts hbx
            clear hbx
            go_wp2_with fail
            refine (HCk.out _ HN.out.1.lies).mono ?_
            rintro e W ⟨rfl, hbn⟩
            clear x0 x1 x2 x3 x4 x5 x6 x7
            replace HN := Lib.hid (And.intro (HN.out.1.up hbn) (below_of HN.out.2 hbn))
            clear hbn
            have hbx := HN.out.1.box
            simp only [ndCells] at hbx
            obtain ⟨x0, x1, x2, x3, x4, x5, x6, x7, -, -, -, -, -, -, -, -⟩ := nd_facts hbx
            clear hbx
            go_wp2_with fail
            refine (HFi.out _ HN.out.1.lies).mono ?_
            rintro e W ⟨rfl, hbn⟩
            clear x0 x1 x2 x3 x4 x5 x6 x7
            replace HN := Lib.hid (And.intro (HN.out.1.up hbn) (below_of HN.out.2 hbn))
            clear hbn
            have hbx := HN.out.1.box
            simp only [ndCells] at hbx
            obtain ⟨x0, x1, x2, x3, x4, x5, x6, x7, -, -, -, -, -, -, -, -⟩ := nd_facts hbx
            clear hbx
            go_wp2_with fail
            refine (HWi.out _ HN.out.1.lies).mono ?_
            rintro e W1 ⟨A1, B1, C1, ca1, cb1, cc1, rfl, hl1, hb1, -, -⟩
            have HBB := Lib.hid (below_of (below_of HN.out.2 hb1) (below_alloc W1 (.cells (ndCells N1 A1 B1 C1 ca1 cb1 cc1) 26)))
            clear hl1 hb1 x0 x1 x2 x3 x4 x5 x6 x7
            simp only [ndCells] at HBB ⊢
            go_wp2_with fail
            generalize W1.alloc _ = W2 at HBB ⊢
            refine (lives11_any _).mono ?_
            rintro e w9 ⟨rfl, hb9⟩
            go_wp2_with fail
            go_ret
            exact ⟨rfl, below_of HBB.out hb9⟩
          · obtain ⟨-, hw, hsP, hfP, hwP, hsC, hsame, hlen⟩ := hbl hok
            rw [hw] at HWi
            rw [← hfd] at hsame hlen
            have HCP := Lib.hid (fun (W : World) (A B C : Option Addr) (ca cb cc : Nat) (hW : Lies W (putD d k v) A B C ca cb cc) => Ret.to (ndcheck_any (putD d k v) fan A B C ca cb cc W hW) (congrArg (Value.int .i64) (ndChk_ok hsP hfan)))
            have hfv : Value.tuple #[.int .u64 (findD (putD d k v) k).1, .bool (findD (putD d k v) k).2] = .tuple #[.int .u64 v, .bool true] := by rw [hfP]
            have HFP := Lib.hid (fun (W : World) (A B C : Option Addr) (ca cb cc : Nat) (hW : Lies W (putD d k v) A B C ca cb cc) => Ret.to (nodefind_any (putD d k v) k A B C ca cb cc W hW hk) hfv)
            have HWP := Lib.hid (fun (W : World) (A B C : Option Addr) (ca cb cc : Nat) (hW : Lies W (putD d k v) A B C ca cb cc) => hwP ▸ leafcut_any (putD d k v) k A B C ca cb cc W hW hk)
            have HCQ := Lib.hid (fun (W : World) (A B C : Option Addr) (ca cb cc : Nat) (hW : Lies W (cutD (putD d k v) k) A B C ca cb cc) => Ret.to (ndcheck_any (cutD (putD d k v) k) fan A B C ca cb cc W hW) (congrArg (Value.int .i64) (ndChk_ok hsC hfan)))
            have HSQ := Lib.hid (fun (hth : there = false) (W : World) (A1 B1 C1 : Option Addr) (ca1 cb1 cc1 : Nat) (hW : Lies W (cutD (putD d k v) k) A1 B1 C1 ca1 cb1 cc1) (hD : Lies W d A B C ca cb cc) => Ret.to (sameN_any (cutD (putD d k v) k) d A1 B1 C1 A B C ca1 cb1 cc1 ca cb cc W hW hD) (congrArg Value.bool (hsame hth)))
            clear hsame hfv hsC hwP hfP hsP hw hbl hfd hok hlf hso hc hli
            generalize cutD (putD d k v) k = Q at HWP HCQ HSQ hlen
            generalize (putD d k v).keys = K at hps
            generalize (putD d k v).vals = V at hps
            generalize putD d k v = P at hps HCP HFP HWP HWi
            subst hps
            have HLN := Lib.hid (And.intro hlen (show d.keys.length ≤ 9223372036854775807 from HN.out.1.lies.la))
            clear hlen
            obtain ⟨level, low, high, last, next, keys, vals, kids⟩ := d
            obtain ⟨level2, low2, high2, last2, next2, keys2, vals2, kids2⟩ := Q
            simp only [] at hlv
            subst hlv
            simp only [ndCells] at HCP HFP HWP HCQ HSQ
            simp only [ndCells] at HN HLi ⊢
            (try simp only [ndCells] at HCk)
            (try simp only [ndCells] at HFi)
            (try simp only [ndCells] at HWi)
            go_enter Try.func8, Try.ntmps8
            go_upto_region 1 with fail
            generalize w.alloc _ = W at HN ⊢
            have hbx := HN.out.1.box
            simp only [ndCells] at hbx
            obtain ⟨x0, x1, x2, x3, x4, x5, x6, x7, -, -, -, -, -, -, -, -⟩ := nd_facts hbx
            clear hbx
            go_wp2_with fail
            refine (HLi.out _ HN.out.1.lies).mono ?_
            rintro e W ⟨rfl, hbn⟩
            clear x0 x1 x2 x3 x4 x5 x6 x7
            replace HN := Lib.hid (And.intro (HN.out.1.up hbn) (below_of HN.out.2 hbn))
            clear hbn
            have hbx := HN.out.1.box
            simp only [ndCells] at hbx
            obtain ⟨x0, x1, x2, x3, x4, x5, x6, x7, -, -, -, -, -, -, -, -⟩ := nd_facts hbx
            clear hbx
            go_wp2_with fail
            refine (HCk.out _ HN.out.1.lies).mono ?_
            rintro e W ⟨rfl, hbn⟩
            clear x0 x1 x2 x3 x4 x5 x6 x7
            replace HN := Lib.hid (And.intro (HN.out.1.up hbn) (below_of HN.out.2 hbn))
            clear hbn
            have hbx := HN.out.1.box
            simp only [ndCells] at hbx
            obtain ⟨x0, x1, x2, x3, x4, x5, x6, x7, -, -, -, -, -, -, -, -⟩ := nd_facts hbx
            clear hbx
            go_wp2_with fail
            refine (HFi.out _ HN.out.1.lies).mono ?_
            rintro e W ⟨rfl, hbn⟩
            clear x0 x1 x2 x3 x4 x5 x6 x7
            replace HN := Lib.hid (And.intro (HN.out.1.up hbn) (below_of HN.out.2 hbn))
            clear hbn
            have hbx := HN.out.1.box
            simp only [ndCells] at hbx
            obtain ⟨x0, x1, x2, x3, x4, x5, x6, x7, -, -, -, -, -, -, -, -⟩ := nd_facts hbx
            clear hbx
            go_wp2_with fail
            refine (HWi.out _ HN.out.1.lies).mono ?_
            rintro e W1 ⟨A1, B1, C1, ca1, cb1, cc1, rfl, hl1, hb1, -, -⟩
            have hba1 := below_alloc W1 (.cells (ndCells ⟨0, low, high, last, next, K, V, kids⟩ A1 B1 C1 ca1 cb1 cc1) 26)
            have H2 := Lib.hid (And.intro ((HN.out.1.up hb1).up hba1) (And.intro (show Nb _ W1.heap.size ⟨0, low, high, last, next, K, V, kids⟩ A1 B1 C1 ca1 cb1 cc1 from ⟨heap_alloc_new W1 _, hl1.up hba1⟩) (below_of (below_of HN.out.2 hb1) hba1)))
            clear hba1 hl1 hb1 x0 x1 x2 x3 x4 x5 x6 x7 HN HLi HCk HFi HWi
            simp only [ndCells] at H2 ⊢
            go_upto_region 5 with fail
            generalize W1.alloc _ = W2 at H2 ⊢
            generalize W1.heap.size = g11 at H2 ⊢
            have hbx := H2.out.1.box
            have hby := H2.out.2.1.box
            simp only [ndCells] at hbx hby
            obtain ⟨x0, x1, x2, x3, x4, x5, x6, x7, -, -, -, -, -, -, -, -⟩ := nd_facts hbx
            obtain ⟨y0, y1, y2, y3, y4, y5, y6, y7, -, -, -, -, -, -, -, -⟩ := nd_facts hby
            clear hbx hby
            go_wp2_with fail
            refine (HFP.out _ A1 B1 C1 ca1 cb1 cc1 H2.out.2.1.lies).mono ?_
            rintro e W3 ⟨rfl, hb3⟩
            replace H2 := Lib.hid (And.intro (H2.out.1.up hb3) (And.intro (H2.out.2.1.up hb3) (below_of H2.out.2.2 hb3)))
            clear hb3 x0 x1 x2 x3 x4 x5 x6 x7 y0 y1 y2 y3 y4 y5 y6 y7 HFP
            have hbx := H2.out.1.box
            have hby := H2.out.2.1.box
            simp only [ndCells] at hbx hby
            obtain ⟨x0, x1, x2, x3, x4, x5, x6, x7, -, -, -, -, -, -, -, -⟩ := nd_facts hbx
            obtain ⟨y0, y1, y2, y3, y4, y5, y6, y7, -, -, -, -, -, -, -, -⟩ := nd_facts hby
            clear hbx hby
            go_wp2_with fail
            refine (HWP.out _ A1 B1 C1 ca1 cb1 cc1 H2.out.2.1.lies).mono ?_
            rintro e W4 ⟨A2, B2, C2, ca2, cb2, cc2, rfl, hl4, hb4, -, -⟩
            have hba4 := below_alloc W4 (.cells (ndCells ⟨level2, low2, high2, last2, next2, keys2, vals2, kids2⟩ A2 B2 C2 ca2 cb2 cc2) 26)
            replace H2 := Lib.hid (And.intro ((H2.out.1.up hb4).up hba4) (And.intro ((H2.out.2.1.up hb4).up hba4) (And.intro (below_of (below_of H2.out.2.2 hb4) hba4) (show Nb _ W4.heap.size ⟨level2, low2, high2, last2, next2, keys2, vals2, kids2⟩ A2 B2 C2 ca2 cb2 cc2 from ⟨heap_alloc_new W4 _, hl4.up hba4⟩))))
            clear hba4 hl4 hb4 x0 x1 x2 x3 x4 x5 x6 x7 y0 y1 y2 y3 y4 y5 y6 y7 HWP
            simp only [ndCells] at H2 ⊢
            go_upto_region 9 with fail
            generalize W4.alloc _ = W5 at H2 ⊢
            generalize W4.heap.size = g15 at H2 ⊢
            have hbx := H2.out.1.box
            have hby := H2.out.2.1.box
            have hbz := H2.out.2.2.2.box
            simp only [ndCells] at hbx hby hbz
            obtain ⟨x0, x1, x2, x3, x4, x5, x6, x7, -, -, -, -, -, -, -, -⟩ := nd_facts hbx
            obtain ⟨y0, y1, y2, y3, y4, y5, y6, y7, -, -, -, -, -, -, -, -⟩ := nd_facts hby
            obtain ⟨z0, z1, z2, z3, z4, z5, z6, z7, -, -, -, -, -, -, -, -⟩ := nd_facts hbz
            clear hbx hby hbz
            go_wp2_with fail
            refine (HCP.out _ A1 B1 C1 ca1 cb1 cc1 H2.out.2.1.lies).mono ?_
            rintro e W6 ⟨rfl, hb6⟩
            replace H2 := Lib.hid (And.intro (H2.out.1.up hb6) (And.intro (H2.out.2.1.up hb6) (And.intro (below_of H2.out.2.2.1 hb6) (H2.out.2.2.2.up hb6))))
            clear hb6 x0 x1 x2 x3 x4 x5 x6 x7 y0 y1 y2 y3 y4 y5 y6 y7 z0 z1 z2 z3 z4 z5 z6 z7
            have hbx := H2.out.1.box
            have hby := H2.out.2.1.box
            have hbz := H2.out.2.2.2.box
            simp only [ndCells] at hbx hby hbz
            obtain ⟨x0, x1, x2, x3, x4, x5, x6, x7, -, -, -, -, -, -, -, -⟩ := nd_facts hbx
            obtain ⟨y0, y1, y2, y3, y4, y5, y6, y7, -, -, -, -, -, -, -, -⟩ := nd_facts hby
            obtain ⟨z0, z1, z2, z3, z4, z5, z6, z7, -, -, -, -, -, -, -, -⟩ := nd_facts hbz
            clear hbx hby hbz
            go_wp2_with fail
            refine (HCQ.out _ A2 B2 C2 ca2 cb2 cc2 H2.out.2.2.2.lies).mono ?_
            rintro e W6 ⟨rfl, hb6⟩
            replace H2 := Lib.hid (And.intro (H2.out.1.up hb6) (And.intro (H2.out.2.1.up hb6) (And.intro (below_of H2.out.2.2.1 hb6) (H2.out.2.2.2.up hb6))))
            clear hb6 x0 x1 x2 x3 x4 x5 x6 x7 y0 y1 y2 y3 y4 y5 y6 y7 z0 z1 z2 z3 z4 z5 z6 z7
            have hbx := H2.out.1.box
            have hby := H2.out.2.1.box
            have hbz := H2.out.2.2.2.box
            simp only [ndCells] at hbx hby hbz
            obtain ⟨x0, x1, x2, x3, x4, x5, x6, x7, -, -, -, -, -, -, -, -⟩ := nd_facts hbx
            obtain ⟨y0, y1, y2, y3, y4, y5, y6, y7, -, -, -, -, -, -, -, -⟩ := nd_facts hby
            obtain ⟨z0, z1, z2, z3, z4, z5, z6, z7, -, -, -, -, -, -, -, -⟩ := nd_facts hbz
            clear hbx hby hbz
            cases there
            · go_wp2_with fail
              refine (HSQ.out (by trivial) _ A2 B2 C2 ca2 cb2 cc2 H2.out.2.2.2.lies H2.out.1.lies).mono ?_
              rintro e W6 ⟨rfl, hb6⟩
              replace H2 := Lib.hid (And.intro (H2.out.1.up hb6) (And.intro (H2.out.2.1.up hb6) (And.intro (below_of H2.out.2.2.1 hb6) (H2.out.2.2.2.up hb6))))
              clear hb6 x0 x1 x2 x3 x4 x5 x6 x7 y0 y1 y2 y3 y4 y5 y6 y7 z0 z1 z2 z3 z4 z5 z6 z7
              have hbx := H2.out.1.box
              have hby := H2.out.2.1.box
              have hbz := H2.out.2.2.2.box
              simp only [ndCells] at hbx hby hbz
              obtain ⟨x0, x1, x2, x3, x4, x5, x6, x7, -, -, -, -, -, -, -, -⟩ := nd_facts hbx
              obtain ⟨y0, y1, y2, y3, y4, y5, y6, y7, -, -, -, -, -, -, -, -⟩ := nd_facts hby
              obtain ⟨z0, z1, z2, z3, z4, z5, z6, z7, -, -, -, -, -, -, -, -⟩ := nd_facts hbz
              clear hbx hby hbz
              go_wp2_with fail
              refine (lives11_any _).mono ?_
              rintro e w9 ⟨rfl, hb9⟩
              go_wp2_with fail
              go_ret
              exact ⟨rfl, below_of H2.out.2.2.1 hb9⟩
            · have hl1 := HLN.out.1 (by trivial)
              have hl2 := HLN.out.2
              (try simp only [] at hl1 hl2)
              have s1 : IntKind.i64.wrap ((keys.length : Int) - 1) = (keys2.length : Int) := by rw [IntWalk.i64_in _ (by omega)]; omega
              have s2 : (keys2.length : Int) = (keys.length : Int) - 1 := by omega
              have HS1 := Lib.hid s2
              clear hl1 hl2 s2
              go_wp2_with fail
              refine (lives11_any _).mono ?_
              rintro e w9 ⟨rfl, hb9⟩
              go_wp2_with fail
              go_ret
              exact ⟨rfl, below_of H2.out.2.2.1 hb9⟩
        · have hlv2 : (d.level == (0 : Int)) = false := by rw [beq_eq_false_iff_ne]; exact hlv
          clear hli hc hso hfan HFi HWi hlv
          obtain ⟨level, low, high, last, next, keys, vals, kids⟩ := d
          simp only [] at hlv2
          simp only [ndCells] at HN HLi ⊢
          (try simp only [ndCells] at HCk)
          (try simp only [ndCells] at HFi)
          (try simp only [ndCells] at HWi)
          go_enter Try.func8, Try.ntmps8
          go_upto_region 1 with fail
          generalize w.alloc _ = W at HN ⊢
          have hbx := HN.out.1.box
          simp only [ndCells] at hbx
          obtain ⟨x0, x1, x2, x3, x4, x5, x6, x7, -, -, -, -, -, -, -, -⟩ := nd_facts hbx
          clear hbx
          go_wp2_with fail
          refine (HLi.out _ HN.out.1.lies).mono ?_
          rintro e W ⟨rfl, hbn⟩
          clear x0 x1 x2 x3 x4 x5 x6 x7
          replace HN := Lib.hid (And.intro (HN.out.1.up hbn) (below_of HN.out.2 hbn))
          clear hbn
          have hbx := HN.out.1.box
          simp only [ndCells] at hbx
          obtain ⟨x0, x1, x2, x3, x4, x5, x6, x7, -, -, -, -, -, -, -, -⟩ := nd_facts hbx
          clear hbx
          go_wp2_with fail
          refine (HCk.out _ HN.out.1.lies).mono ?_
          rintro e W ⟨rfl, hbn⟩
          clear x0 x1 x2 x3 x4 x5 x6 x7
          replace HN := Lib.hid (And.intro (HN.out.1.up hbn) (below_of HN.out.2 hbn))
          clear hbn
          have hbx := HN.out.1.box
          simp only [ndCells] at hbx
          obtain ⟨x0, x1, x2, x3, x4, x5, x6, x7, -, -, -, -, -, -, -, -⟩ := nd_facts hbx
          clear hbx
          go_wp2_with fail
          refine (lives11_any _).mono ?_
          rintro e w9 ⟨rfl, hb9⟩
          go_wp2_with fail
          go_ret
          exact ⟨rfl, below_of HN.out.2 hb9⟩
      · have hc2 : (ndChk d fan == (0 : Int)) = false := by rw [beq_eq_false_iff_ne]; exact hc
        generalize ndChk d fan = cv at hc2 HCk
        clear hli hc HFi HWi
        obtain ⟨level, low, high, last, next, keys, vals, kids⟩ := d
        simp only [ndCells] at HN HLi ⊢
        (try simp only [ndCells] at HCk)
        (try simp only [ndCells] at HFi)
        (try simp only [ndCells] at HWi)
        go_enter Try.func8, Try.ntmps8
        go_upto_region 1 with fail
        generalize w.alloc _ = W at HN ⊢
        have hbx := HN.out.1.box
        simp only [ndCells] at hbx
        obtain ⟨x0, x1, x2, x3, x4, x5, x6, x7, -, -, -, -, -, -, -, -⟩ := nd_facts hbx
        clear hbx
        go_wp2_with fail
        refine (HLi.out _ HN.out.1.lies).mono ?_
        rintro e W ⟨rfl, hbn⟩
        clear x0 x1 x2 x3 x4 x5 x6 x7
        replace HN := Lib.hid (And.intro (HN.out.1.up hbn) (below_of HN.out.2 hbn))
        clear hbn
        have hbx := HN.out.1.box
        simp only [ndCells] at hbx
        obtain ⟨x0, x1, x2, x3, x4, x5, x6, x7, -, -, -, -, -, -, -, -⟩ := nd_facts hbx
        clear hbx
        go_wp2_with fail
        refine (HCk.out _ HN.out.1.lies).mono ?_
        rintro e W ⟨rfl, hbn⟩
        clear x0 x1 x2 x3 x4 x5 x6 x7
        replace HN := Lib.hid (And.intro (HN.out.1.up hbn) (below_of HN.out.2 hbn))
        clear hbn
        have hbx := HN.out.1.box
        simp only [ndCells] at hbx
        obtain ⟨x0, x1, x2, x3, x4, x5, x6, x7, -, -, -, -, -, -, -, -⟩ := nd_facts hbx
        clear hbx
        go_wp2_with fail
        refine (lives11_any _).mono ?_
        rintro e w9 ⟨rfl, hb9⟩
        go_wp2_with fail
        go_ret
        exact ⟨rfl, below_of HN.out.2 hb9⟩

theorem leafsback_row (d : Nd) (A B C : Option Addr) (ca cb cc : Nat) (k : ByteArray) (v fan : Int) (w : World) (h : Lies w d A B C ca cb cc) (_ : Bnd d) (hk : k.size ≤ maxLen) (_ : 0 ≤ v ∧ v ≤ 18446744073709551615) (_ : -9223372036854775808 ≤ fan ∧ fan ≤ 9223372036854775807) :
    Calls Try.prog 8 #[.agg (ndCells d A B C ca cb cc), .string k, .int .u64 v, .int .i64 fan] w (Ret (.bool true) w) := leafsback_any d k v fan A B C ca cb cc w h hk

end Go.Proofs.Ytcoiadncennhpaa
