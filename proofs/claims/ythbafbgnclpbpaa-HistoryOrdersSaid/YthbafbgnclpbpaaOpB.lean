/- Contracts of package op. -/
import Derived.Test.YthbafbgnclpbpaaLives01
import Derived.Test.YthbafbgnclpbpaaKey2
namespace Go.Proofs.Ythbafbgnclpbpaa
open Go.RowKit

/-- What a kind uses. -/
def usesKey (k : Int) : Bool := decide (1 ≤ k ∧ k ≤ 5 ∨ 8 ≤ k ∧ k ≤ 10)
def usesTo (k : Int) : Bool := decide (k = 10)
def usesVal (k : Int) : Bool := decide (k = 2 ∨ k = 3 ∨ k = 5)
def isKind (k : Int) : Bool := decide (1 ≤ k ∧ k ≤ 10)
def usesV (k : Int) : Value := .agg #[.bool (usesKey k), .bool (usesTo k), .bool (usesVal k), .bool (usesTo k)]

theorem kind_cases (k : Int) : k = 1 ∨ k = 2 ∨ k = 3 ∨ k = 4 ∨ k = 5 ∨ k = 6 ∨ k = 7 ∨ k = 8 ∨ k = 9 ∨ k = 10 ∨ (k < 1 ∨ 10 < k) := by omega

set_option maxHeartbeats 1000000 in
theorem used_any (k : Int) (w : World) : Calls Try.prog 82 #[.int .i64 k] w (Ret (.tuple #[usesV k, .bool (isKind k)]) w) := by
  rcases kind_cases k with rfl | rfl | rfl | rfl | rfl | rfl | rfl | rfl | rfl | rfl | h
  · go_enter Try.func82, Try.ntmps82
    go_wp2_with fail
    exact bodyPost_ret (v := .tuple #[.agg #[.bool true, .bool false, .bool false, .bool false], .bool true]) (by simp [results, Try.results82, go_sem]) rfl ⟨rfl, below_alloc _ _⟩
  · go_enter Try.func82, Try.ntmps82
    go_wp2_with fail
    exact bodyPost_ret (v := .tuple #[.agg #[.bool true, .bool false, .bool true, .bool false], .bool true]) (by simp [results, Try.results82, go_sem]) rfl ⟨rfl, below_alloc _ _⟩
  · go_enter Try.func82, Try.ntmps82
    go_wp2_with fail
    exact bodyPost_ret (v := .tuple #[.agg #[.bool true, .bool false, .bool true, .bool false], .bool true]) (by simp [results, Try.results82, go_sem]) rfl ⟨rfl, below_alloc _ _⟩
  · go_enter Try.func82, Try.ntmps82
    go_wp2_with fail
    exact bodyPost_ret (v := .tuple #[.agg #[.bool true, .bool false, .bool false, .bool false], .bool true]) (by simp [results, Try.results82, go_sem]) rfl ⟨rfl, below_alloc _ _⟩
  · go_enter Try.func82, Try.ntmps82
    go_wp2_with fail
    exact bodyPost_ret (v := .tuple #[.agg #[.bool true, .bool false, .bool true, .bool false], .bool true]) (by simp [results, Try.results82, go_sem]) rfl ⟨rfl, below_alloc _ _⟩
  · go_enter Try.func82, Try.ntmps82
    go_wp2_with fail
    exact bodyPost_ret (v := .tuple #[.agg #[.bool false, .bool false, .bool false, .bool false], .bool true]) (by simp [results, Try.results82, go_sem]) rfl ⟨rfl, below_alloc _ _⟩
  · go_enter Try.func82, Try.ntmps82
    go_wp2_with fail
    exact bodyPost_ret (v := .tuple #[.agg #[.bool false, .bool false, .bool false, .bool false], .bool true]) (by simp [results, Try.results82, go_sem]) rfl ⟨rfl, below_alloc _ _⟩
  · go_enter Try.func82, Try.ntmps82
    go_wp2_with fail
    exact bodyPost_ret (v := .tuple #[.agg #[.bool true, .bool false, .bool false, .bool false], .bool true]) (by simp [results, Try.results82, go_sem]) rfl ⟨rfl, below_alloc _ _⟩
  · go_enter Try.func82, Try.ntmps82
    go_wp2_with fail
    exact bodyPost_ret (v := .tuple #[.agg #[.bool true, .bool false, .bool false, .bool false], .bool true]) (by simp [results, Try.results82, go_sem]) rfl ⟨rfl, below_alloc _ _⟩
  · go_enter Try.func82, Try.ntmps82
    go_wp2_with fail
    exact bodyPost_ret (v := .tuple #[.agg #[.bool true, .bool true, .bool false, .bool true], .bool true]) (by simp [results, Try.results82, go_sem]) rfl ⟨rfl, below_alloc _ _⟩
  · have hu : usesV k = .agg #[.bool false, .bool false, .bool false, .bool false] := by
      unfold usesV usesKey usesTo usesVal
      rw [decide_eq_false (by omega), decide_eq_false (by omega), decide_eq_false (by omega)]
    have hk : isKind k = false := decide_eq_false (by omega)
    rw [hu, hk]
    have e1 : (k == (1 : Int)) = false := by rw [beq_eq_false_iff_ne]; omega
    have e2 : (k == (2 : Int)) = false := by rw [beq_eq_false_iff_ne]; omega
    have e3 : (k == (3 : Int)) = false := by rw [beq_eq_false_iff_ne]; omega
    have e4 : (k == (4 : Int)) = false := by rw [beq_eq_false_iff_ne]; omega
    have e5 : (k == (5 : Int)) = false := by rw [beq_eq_false_iff_ne]; omega
    have e6 : (k == (6 : Int)) = false := by rw [beq_eq_false_iff_ne]; omega
    have e7 : (k == (7 : Int)) = false := by rw [beq_eq_false_iff_ne]; omega
    have e8 : (k == (8 : Int)) = false := by rw [beq_eq_false_iff_ne]; omega
    have e9 : (k == (9 : Int)) = false := by rw [beq_eq_false_iff_ne]; omega
    have e10 : (k == (10 : Int)) = false := by rw [beq_eq_false_iff_ne]; omega
    clear h hu hk
    go_enter Try.func82, Try.ntmps82
    go_wp2_with fail
    exact bodyPost_ret (v := .tuple #[.agg #[.bool false, .bool false, .bool false, .bool false], .bool false]) (by simp [results, Try.results82, go_sem]) rfl ⟨rfl, below_alloc _ _⟩

end Go.Proofs.Ythbafbgnclpbpaa

namespace Go.Proofs.Ythbafbgnclpbpaa
open Go.RowKit

structure OpD where
  kind : Int
  key : ByteArray
  upto : ByteArray
  val : Nat
  limit : Int
def opCells (o : OpD) : Array Value := #[.int .i64 o.kind, .string o.key, .string o.upto, .int .u64 (o.val : Int), .int .i64 o.limit]
structure OpOk (o : OpD) : Prop where
  kind : -9223372036854775808 ≤ o.kind ∧ o.kind ≤ 9223372036854775807
  key : o.key.size ≤ maxLen
  upto : o.upto.size ≤ maxLen
  val : o.val < 18446744073709551616
  limit : -9223372036854775808 ≤ o.limit ∧ o.limit ≤ 9223372036854775807

/-- An operation in a variable. -/
def OpAt (w : World) (g : Nat) (o : OpD) : Prop :=
  w.cell? ⟨g, 0, none⟩ = some (.int .i64 o.kind) ∧ w.cell? ⟨g, 1, none⟩ = some (.string o.key) ∧ w.cell? ⟨g, 2, none⟩ = some (.string o.upto) ∧ w.cell? ⟨g, 3, none⟩ = some (.int .u64 (o.val : Int)) ∧ w.cell? ⟨g, 4, none⟩ = some (.int .i64 o.limit)
theorem OpAt.new (w : World) (o : OpD) (T : TypeId) : OpAt (w.alloc (.cells (opCells o) T)) w.heap.size o :=
  ⟨new_cell w _ T 0 _ rfl, new_cell w _ T 1 _ rfl, new_cell w _ T 2 _ rfl, new_cell w _ T 3 _ rfl, new_cell w _ T 4 _ rfl⟩
theorem OpAt.up {w w' : World} {g B0 : Nat} {o : OpD} (h : OpAt w g o) (hb : Below B0 w w') (hg : g < B0) : OpAt w' g o := by
  obtain ⟨h0, h1, h2, h3, h4⟩ := h
  have k := fun (i : Nat) => hb.cell (p := ⟨g, i, none⟩) hg
  exact ⟨(k 0).trans h0, (k 1).trans h1, (k 2).trans h2, (k 3).trans h3, (k 4).trans h4⟩

def goodK (k : ByteArray) : Bool := decide (1 ≤ k.size ∧ k.size ≤ 64)
theorem chk_good (k : ByteArray) : chk k = if goodK k = true then 0 else 2 := by
  unfold chk goodK
  by_cases h : 1 ≤ k.size ∧ k.size ≤ 64
  · rw [if_neg (by omega), if_pos (decide_eq_true h)]
  · rw [if_pos (by omega), if_neg (by rw [decide_eq_true_iff]; exact h)]

/-- Is an operation sound? -/
def opB (o : OpD) : Bool := isKind o.kind && ((!usesKey o.kind || goodK o.key) && ((!usesTo o.kind || (goodK o.upto && !Pl.ls o.upto.data.toList o.key.data.toList)) && (!usesTo o.kind || decide (0 ≤ o.limit ∧ o.limit ≤ 4096))))

theorem Calls.to {P : Program} {f : FuncId} {args : Array Value} {w : World} {v v' : Value} (h : Calls P f args w (Ret v w)) (e : v = v') : Calls P f args w (Ret v' w) := e ▸ h
theorem kcheck_yes {k : ByteArray} (w : World) (hk : k.size ≤ maxLen) (h : goodK k = true) : Calls Try.prog 83 #[.string k] w (Ret (.int .i64 0) w) := Calls.to (check_any k w hk) (by rw [chk_good, if_pos h])
theorem kcheck_no {k : ByteArray} (w : World) (hk : k.size ≤ maxLen) (h : goodK k = false) : Calls Try.prog 83 #[.string k] w (Ret (.int .i64 2) w) := Calls.to (check_any k w hk) (by rw [chk_good, if_neg (by rw [h]; exact Bool.false_ne_true)])
theorem to_key {k : Int} (h : usesTo k = true) : usesKey k = true := by
  have := of_decide_eq_true h
  exact decide_eq_true (by omega)

/-- What is used, in a variable. -/
def UsesAt (w : World) (g : Nat) (a b c d : Bool) : Prop := w.cell? ⟨g, 0, none⟩ = some (.bool a) ∧ w.cell? ⟨g, 1, none⟩ = some (.bool b) ∧ w.cell? ⟨g, 2, none⟩ = some (.bool c) ∧ w.cell? ⟨g, 3, none⟩ = some (.bool d)
theorem usesAt_new (w : World) (a b c d : Bool) : UsesAt (w.alloc (.cells #[.bool a, .bool b, .bool c, .bool d] 110)) w.heap.size a b c d :=
  ⟨new_cell w _ _ 0 _ rfl, new_cell w _ _ 1 _ rfl, new_cell w _ _ 2 _ rfl, new_cell w _ _ 3 _ rfl⟩
theorem usesAt_up {w w' : World} {g B0 : Nat} {a b c d : Bool} (h : UsesAt w g a b c d) (hb : Below B0 w w') (hg : g < B0) : UsesAt w' g a b c d := by
  obtain ⟨h0, h1, h2, h3⟩ := h
  have k := fun (i : Nat) => hb.cell (p := ⟨g, i, none⟩) hg
  exact ⟨(k 0).trans h0, (k 1).trans h1, (k 2).trans h2, (k 3).trans h3⟩

set_option maxRecDepth 100000 in
set_option maxHeartbeats 16000000 in
theorem opcheck_any (o : OpD) (w : World) (ho : OpOk o) : Calls Try.prog 41 #[.agg (opCells o)] w (Ret (.int .i64 (if opB o = true then 0 else 2)) w) := by
  have hn := OpAt.new w o 58
  have hb := below_alloc w (.cells (opCells o) 58)
  have hz : w.heap.size < (w.alloc (.cells (opCells o) 58)).heap.size := by simp
  obtain ⟨kind, key, upto, val, limit⟩ := o
  have hk := ho.key
  have ht := ho.upto
  simp only [] at hk ht
  have hB : opB ⟨kind, key, upto, val, limit⟩ = (isKind kind && ((!usesKey kind || goodK key) && ((!usesTo kind || (goodK upto && !Pl.ls upto.data.toList key.data.toList)) && (!usesTo kind || decide (0 ≤ limit ∧ limit ≤ 4096))))) := rfl
  have HU := Lib.hid (used_any kind)
  have htk := to_key (k := kind)
  simp only [opCells] at hn hb hz ⊢
  simp only [usesV] at HU
  generalize isKind kind = ik at hB HU
  generalize usesKey kind = ku at hB HU htk
  generalize usesTo kind = tu at hB HU htk
  generalize usesVal kind = vu at HU
  have HK := Lib.hid (And.intro hk ht)
  rw [hB]
  clear hB ho hk ht
  generalize hv : (if (ik && ((!ku || goodK key) && ((!tu || (goodK upto && !Pl.ls upto.data.toList key.data.toList)) && (!tu || decide (0 ≤ limit ∧ limit ≤ 4096))))) = true then (0 : Int) else 2) = v
  cases hgk : goodK key <;> cases hgt : goodK upto <;> cases hls : Pl.ls upto.data.toList key.data.toList <;> cases hlm : decide (0 ≤ limit ∧ limit ≤ 4096)
  all_goals
    rw [hgk, hgt, hls, hlm] at hv
    have HV := Lib.hid hv
    have HG := Lib.hid (And.intro hgk (And.intro hgt hls))
    have hcmp : decide (0 < Pl.cmp key.data.toList upto.data.toList) = Pl.ls upto.data.toList key.data.toList := by
      rw [Bool.eq_iff_iff, decide_eq_true_iff]
      exact Pl.cmp_gt
    rw [hls] at hcmp
    clear hv hgk hgt hls
    cases ik
    · go_enter Try.func41, Try.ntmps41
      go_wp2_with fail
      generalize w.alloc _ = W at hn hb hz ⊢
      obtain ⟨x0, x1, x2, x3, x4⟩ := id hn
      simp only [] at x0 x1 x2 x3 x4
      (try go_wp2_with fail)
      refine (HU.out _).mono ?_
      rintro e wn ⟨rfl, hbn⟩
      replace hb := below_of hb hbn
      replace hn := hn.up hbn hz
      replace hz := Nat.lt_of_lt_of_le hz hbn.size
      clear hbn x0 x1 x2 x3 x4
      obtain ⟨x0, x1, x2, x3, x4⟩ := id hn
      simp only [] at x0 x1 x2 x3 x4
      go_wp2_with fail
      go_ret
      exact ⟨ret_i64 HV.out, below_of hb (below_alloc _ _)⟩
    · cases ku
      · have htu : tu = false := by
          cases tu
          · rfl
          · exact absurd (htk rfl) (by decide)
        subst htu
        clear htk
        go_enter Try.func41, Try.ntmps41
        go_wp2_with fail
        generalize w.alloc _ = W at hn hb hz ⊢
        obtain ⟨x0, x1, x2, x3, x4⟩ := id hn
        simp only [] at x0 x1 x2 x3 x4
        (try go_wp2_with fail)
        refine (HU.out _).mono ?_
        rintro e wn ⟨rfl, hbn⟩
        replace hb := below_of hb hbn
        replace hn := hn.up hbn hz
        replace hz := Nat.lt_of_lt_of_le hz hbn.size
        clear hbn x0 x1 x2 x3 x4
        obtain ⟨x0, x1, x2, x3, x4⟩ := id hn
        simp only [] at x0 x1 x2 x3 x4
        go_wp2_with fail
        go_ret
        exact ⟨ret_i64 HV.out, below_of hb (below_alloc _ _)⟩
      · clear htk
        cases tu
        · go_enter Try.func41, Try.ntmps41
          go_wp2_with fail
          generalize w.alloc _ = W at hn hb hz ⊢
          obtain ⟨x0, x1, x2, x3, x4⟩ := id hn
          simp only [] at x0 x1 x2 x3 x4
          (try go_wp2_with fail)
          refine (HU.out _).mono ?_
          rintro e wn ⟨rfl, hbn⟩
          replace hb := below_of hb hbn
          replace hn := hn.up hbn hz
          replace hz := Nat.lt_of_lt_of_le hz hbn.size
          clear hbn x0 x1 x2 x3 x4
          obtain ⟨x0, x1, x2, x3, x4⟩ := id hn
          simp only [] at x0 x1 x2 x3 x4
          go_wp2_with fail
          have hu := usesAt_new wn true false vu false
          have hg3 : wn.heap.size < (wn.alloc (.cells #[.bool true, .bool false, .bool vu, .bool false] 110)).heap.size := by simp
          have hbu := below_alloc wn (.cells #[.bool true, .bool false, .bool vu, .bool false] 110)
          replace hb := below_of hb hbu
          replace hn := hn.up hbu hz
          replace hz := Nat.lt_of_lt_of_le hz hbu.size
          clear hbu x0 x1 x2 x3 x4
          generalize wn.alloc _ = W2 at hb hn hz hu hg3 ⊢
          generalize wn.heap.size = g3 at hu hg3 ⊢
          first
          | refine (kcheck_no _ HK.out.1 HG.out.1).mono ?_
            rintro e w5 ⟨rfl, hbn⟩
            replace hb := below_of hb hbn
            replace hn := hn.up hbn hz
            replace hz := Nat.lt_of_lt_of_le hz hbn.size
            replace hu := usesAt_up hu hbn hg3
            replace hg3 := Nat.lt_of_lt_of_le hg3 hbn.size
            clear hbn
            obtain ⟨x0, x1, x2, x3, x4⟩ := id hn
            obtain ⟨u0, u1, u2, u3⟩ := id hu
            simp only [] at x0 x1 x2 x3 x4
            go_wp2_with fail
            go_ret
            exact ⟨ret_i64 HV.out, hb⟩
          | refine (kcheck_yes _ HK.out.1 HG.out.1).mono ?_
            rintro e w5 ⟨rfl, hbn⟩
            replace hb := below_of hb hbn
            replace hn := hn.up hbn hz
            replace hz := Nat.lt_of_lt_of_le hz hbn.size
            replace hu := usesAt_up hu hbn hg3
            replace hg3 := Nat.lt_of_lt_of_le hg3 hbn.size
            clear hbn
            obtain ⟨x0, x1, x2, x3, x4⟩ := id hn
            obtain ⟨u0, u1, u2, u3⟩ := id hu
            simp only [] at x0 x1 x2 x3 x4
            go_wp2_with fail
            go_ret
            exact ⟨ret_i64 HV.out, hb⟩
        · go_enter Try.func41, Try.ntmps41
          go_wp2_with fail
          generalize w.alloc _ = W at hn hb hz ⊢
          obtain ⟨x0, x1, x2, x3, x4⟩ := id hn
          simp only [] at x0 x1 x2 x3 x4
          (try go_wp2_with fail)
          refine (HU.out _).mono ?_
          rintro e wn ⟨rfl, hbn⟩
          replace hb := below_of hb hbn
          replace hn := hn.up hbn hz
          replace hz := Nat.lt_of_lt_of_le hz hbn.size
          clear hbn x0 x1 x2 x3 x4
          obtain ⟨x0, x1, x2, x3, x4⟩ := id hn
          simp only [] at x0 x1 x2 x3 x4
          go_wp2_with fail
          have hu := usesAt_new wn true true vu true
          have hg3 : wn.heap.size < (wn.alloc (.cells #[.bool true, .bool true, .bool vu, .bool true] 110)).heap.size := by simp
          have hbu := below_alloc wn (.cells #[.bool true, .bool true, .bool vu, .bool true] 110)
          replace hb := below_of hb hbu
          replace hn := hn.up hbu hz
          replace hz := Nat.lt_of_lt_of_le hz hbu.size
          clear hbu x0 x1 x2 x3 x4
          generalize wn.alloc _ = W2 at hb hn hz hu hg3 ⊢
          generalize wn.heap.size = g3 at hu hg3 ⊢
          first
          | refine (kcheck_no _ HK.out.1 HG.out.1).mono ?_
            rintro e w5 ⟨rfl, hbn⟩
            replace hb := below_of hb hbn
            replace hn := hn.up hbn hz
            replace hz := Nat.lt_of_lt_of_le hz hbn.size
            replace hu := usesAt_up hu hbn hg3
            replace hg3 := Nat.lt_of_lt_of_le hg3 hbn.size
            clear hbn
            obtain ⟨x0, x1, x2, x3, x4⟩ := id hn
            obtain ⟨u0, u1, u2, u3⟩ := id hu
            simp only [] at x0 x1 x2 x3 x4
            go_wp2_with fail
            go_ret
            exact ⟨ret_i64 HV.out, hb⟩
          | refine (kcheck_yes _ HK.out.1 HG.out.1).mono ?_
            rintro e w5 ⟨rfl, hbn⟩
            replace hb := below_of hb hbn
            replace hn := hn.up hbn hz
            replace hz := Nat.lt_of_lt_of_le hz hbn.size
            replace hu := usesAt_up hu hbn hg3
            replace hg3 := Nat.lt_of_lt_of_le hg3 hbn.size
            clear hbn
            obtain ⟨x0, x1, x2, x3, x4⟩ := id hn
            obtain ⟨u0, u1, u2, u3⟩ := id hu
            simp only [] at x0 x1 x2 x3 x4
            go_wp2_with fail
            first
            | refine (kcheck_no _ HK.out.2 HG.out.2.1).mono ?_
              rintro e w5 ⟨rfl, hbn⟩
              replace hb := below_of hb hbn
              replace hn := hn.up hbn hz
              replace hz := Nat.lt_of_lt_of_le hz hbn.size
              replace hu := usesAt_up hu hbn hg3
              replace hg3 := Nat.lt_of_lt_of_le hg3 hbn.size
              clear hbn
              obtain ⟨x0, x1, x2, x3, x4⟩ := id hn
              obtain ⟨u0, u1, u2, u3⟩ := id hu
              simp only [] at x0 x1 x2 x3 x4
              go_wp2_with fail
              go_ret
              exact ⟨ret_i64 HV.out, hb⟩
            | refine (kcheck_yes _ HK.out.2 HG.out.2.1).mono ?_
              rintro e w5 ⟨rfl, hbn⟩
              replace hb := below_of hb hbn
              replace hn := hn.up hbn hz
              replace hz := Nat.lt_of_lt_of_le hz hbn.size
              replace hu := usesAt_up hu hbn hg3
              replace hg3 := Nat.lt_of_lt_of_le hg3 hbn.size
              clear hbn
              obtain ⟨x0, x1, x2, x3, x4⟩ := id hn
              obtain ⟨u0, u1, u2, u3⟩ := id hu
              simp only [] at x0 x1 x2 x3 x4
              go_wp2_with fail
              refine (compare_any _ _ _ HK.out.1 HK.out.2).mono ?_
              rcases (show limit < 0 ∨ (¬ limit < 0 ∧ 4096 < limit) ∨ (¬ limit < 0 ∧ ¬ 4096 < limit) by omega) with l | ⟨l, l'⟩ | ⟨l, l'⟩
              · first
                | exact (absurd (of_decide_eq_true hlm) (by omega))
                | exact (of_decide_eq_false hlm (by omega)).elim
                | clear hlm
                  rintro e w5 ⟨rfl, hbn⟩
                  replace hb := below_of hb hbn
                  replace hn := hn.up hbn hz
                  replace hz := Nat.lt_of_lt_of_le hz hbn.size
                  replace hu := usesAt_up hu hbn hg3
                  replace hg3 := Nat.lt_of_lt_of_le hg3 hbn.size
                  clear hbn
                  obtain ⟨x0, x1, x2, x3, x4⟩ := id hn
                  obtain ⟨u0, u1, u2, u3⟩ := id hu
                  simp only [] at x0 x1 x2 x3 x4
                  go_wp2_with fail
                  go_ret
                  exact ⟨ret_i64 HV.out, hb⟩
              · first
                | exact (absurd (of_decide_eq_true hlm) (by omega))
                | exact (of_decide_eq_false hlm (by omega)).elim
                | clear hlm
                  rintro e w5 ⟨rfl, hbn⟩
                  replace hb := below_of hb hbn
                  replace hn := hn.up hbn hz
                  replace hz := Nat.lt_of_lt_of_le hz hbn.size
                  replace hu := usesAt_up hu hbn hg3
                  replace hg3 := Nat.lt_of_lt_of_le hg3 hbn.size
                  clear hbn
                  obtain ⟨x0, x1, x2, x3, x4⟩ := id hn
                  obtain ⟨u0, u1, u2, u3⟩ := id hu
                  simp only [] at x0 x1 x2 x3 x4
                  go_wp2_with fail
                  go_ret
                  exact ⟨ret_i64 HV.out, hb⟩
              · first
                | exact (absurd (of_decide_eq_true hlm) (by omega))
                | exact (of_decide_eq_false hlm (by omega)).elim
                | clear hlm
                  rintro e w5 ⟨rfl, hbn⟩
                  replace hb := below_of hb hbn
                  replace hn := hn.up hbn hz
                  replace hz := Nat.lt_of_lt_of_le hz hbn.size
                  replace hu := usesAt_up hu hbn hg3
                  replace hg3 := Nat.lt_of_lt_of_le hg3 hbn.size
                  clear hbn
                  obtain ⟨x0, x1, x2, x3, x4⟩ := id hn
                  obtain ⟨u0, u1, u2, u3⟩ := id hu
                  simp only [] at x0 x1 x2 x3 x4
                  go_wp2_with fail
                  go_ret
                  exact ⟨ret_i64 HV.out, hb⟩

end Go.Proofs.Ythbafbgnclpbpaa
