/- Contracts of bowerref06: Next, Prev. -/
import Derived.Test.YtcoiadncennhpaaMap06
namespace Go.Proofs.Ytcoiadncennhpaa
open Go.RowKit

theorem pr_facts {W : World} {g : Nat} {a b : Value} {T : TypeId} (h : W.heap[g]? = some (.cells #[a, b] T (0, 0))) : W.cell? ⟨g, 0, none⟩ = some a ∧ W.cell? ⟨g, 1, none⟩ = some b ∧ W.frozen? ⟨g, 0, none⟩ = false ∧ W.frozen? ⟨g, 1, none⟩ = false :=
  ⟨by simp only [World.cell?, h]; rfl, by simp only [World.cell?, h]; rfl, heap_frozen h 0, heap_frozen h 1⟩
theorem nextM_take {ps : List PairD} {j : Nat} (hj : j < ps.length) (k : List UInt8) : Pl.nextM (ps.take (j + 1)) k = Pl.nextS k (Pl.nextM (ps.take j) k) ps[j] := by
  rw [List.take_add_one, List.getElem?_eq_getElem hj]
  exact Pl.nextM_snoc _ _ _
theorem prevM_take {ps : List PairD} {j : Nat} (hj : j < ps.length) (k : List UInt8) (all : Bool) : Pl.prevM (ps.take (j + 1)) k all = Pl.prevS k all (Pl.prevM (ps.take j) k all) ps[j] := by
  rw [List.take_add_one, List.getElem?_eq_getElem hj]
  exact Pl.prevM_snoc _ _ _ _
/-- What is best is one of the row. -/
theorem nextM_mem {ps : List PairD} {k : List UInt8} {q : PairD} (h : Pl.nextM ps k = some q) : q ∈ ps := by
  have := Pl.nextM_spec k ps
  rw [h] at this
  exact this.1
theorem prevM_mem {ps : List PairD} {k : List UInt8} {all : Bool} {q : PairD} (h : Pl.prevM ps k all = some q) : q ∈ ps := by
  have := Pl.prevM_spec k all ps
  rw [h] at this
  exact this.1

def nextOk : Option PairD → PairD → Bool
  | none, _ => true
  | some q, p => Pl.ls p.key.data.toList q.key.data.toList
def prevOk : Option PairD → PairD → Bool
  | none, _ => true
  | some q, p => Pl.ls q.key.data.toList p.key.data.toList
theorem nextS_eq (k : List UInt8) (o : Option PairD) (p : PairD) : Pl.nextS k o p = if (Pl.ls k p.key.data.toList && nextOk o p) = true then some p else o := by cases o <;> rfl
theorem prevS_eq (k : List UInt8) (all : Bool) (o : Option PairD) (p : PairD) : Pl.prevS k all o p = if ((all || Pl.ls p.key.data.toList k) && prevOk o p) = true then some p else o := by cases o <;> rfl

set_option maxRecDepth 100000 in
set_option maxHeartbeats 4000000 in
theorem next06_any (A : Option Addr) (c : Nat) (ps : List PairD) (k : ByteArray) (w : World) (h : Prs w A ps.length ps) (hl : ps.length ≤ 10000) (hf : FitP ps) (hk : k.size ≤ maxLen) :
    Calls Try.prog 43 #[.slice A ps.length c, .string k] w (Ret (.tuple #[.agg (prCells ((Pl.nextM ps k.data.toList).getD Pl.zeroP)), .bool (Pl.nextM ps k.data.toList).isSome]) w) := by
  have HH := Lib.hid h
  have hS := Lib.hid (Sx.start2 w (.cells (prCells Pl.zeroP) 48) (.cells (prCells Pl.zeroP) 48))
  simp only [prCells, Pl.zeroP] at hS
  clear h
  go_enter Try.func43, Try.ntmps43
  go_upto_region 2 with fail
  generalize (w.alloc _).alloc _ = W at hS ⊢
  go_wp2_with fail
  go_loopw [7, 8] (fun ok i wr => ∃ (j : Nat) (o : Option PairD), i = .int .i64 j ∧ ok = .bool o.isSome ∧ Hid (j ≤ ps.length ∧ Pl.nextM (ps.take j) k.data.toList = o ∧
    Sx w.heap.size w wr [(w.heap.size, .cells #[.string ⟨#[]⟩, .int .u64 0] 48), (w.heap.size + 1, .cells #[.string (o.getD Pl.zeroP).key, .int .u64 (o.getD Pl.zeroP).val] 48)])) (fun _ i _ => ps.length - (intOf i).toNat)
  case atStart => exact ⟨0, none, rfl, rfl, Nat.zero_le _, rfl, hS.out⟩
  case round =>
    obtain ⟨j, o, rfl, rfl, H⟩ := hrel
    clear hS
    have hS := Lib.hid H.out.2.2
    by_cases hlt : j < ps.length
    · obtain ⟨b, off, _, hA, hb, c0, c1⟩ := (HH.out.up hS.out.below).at_ hlt
      subst hA
      have HB1 := Lib.hid (And.intro hb c0)
      have HB2 := Lib.hid c1
      have hnx := nextM_take hlt k.data.toList
      rw [H.out.2.1] at hnx
      have hfj := hf _ (List.getElem_mem hlt)
      have HNX := Lib.hid hnx
      have HFO := Lib.hid (fun q (e : o = some q) => hf q (List.mem_of_mem_take (nextM_mem (H.out.2.1.trans e))))
      clear H hb c0 c1 hnx
      generalize ps[j] = p at HB1 HB2 HNX hfj
      have HL1 := Lib.hid (fun W => refless_any k p.key W hk hfj)
      rw [nextS_eq] at HNX
      generalize Pl.ls k.data.toList p.key.data.toList = r1 at HL1 HNX
      go_upto_region 6 with fail
      generalize wr = W at hS HB1 HB2 ⊢
      cases o with
      | none =>
        simp only [Option.isSome_none, Option.getD_none, Pl.zeroP] at hS ⊢
        refine wp_region_held_drew (S := fun w' => Below W.heap.size W w') (by kernel_rfl) (Below.drew (Below.refl _ _)) (fun hcur => ?_)
        replace hcur : Below W.heap.size W W.drew := hcur
        generalize W.drew = X0 at hcur ⊢
        refine wpAnyH_take (i := 0) (v := ?_) rfl (by decide +kernel) (by decide +kernel) (by decide +kernel) (fun _ _ _ h => h) (Or.inl ⟨by rfl, ?hy⟩) hcur ?_
        case hy =>
          intro w1 hSw
          replace hSw : Below W.heap.size W w1 := hSw
          have x0 := (hSw.cell (p := ⟨b, off + j * 2, none⟩) HB1.out.1).trans HB1.out.2
          obtain ⟨z0, z1, -, -⟩ := pr_facts ((hS.out.call hSw).has 1 _ _ rfl).1
          go_simp
          (try with_reducible rfl)
        (try simp only [Act.put, List.getElem_toArray, List.getElem_cons_zero, List.getElem_cons_succ, List.setIfInBounds_toArray, List.set_cons_zero, List.set_cons_succ])
        refine wpAnyH_take (i := 1) (v := ?_) rfl (by decide +kernel) (by decide +kernel) (by decide +kernel) (fun _ _ _ h => h) (Or.inl ⟨by rfl, ?hy⟩) hcur ?_
        case hy =>
          intro w1 hSw
          replace hSw : Below W.heap.size W w1 := hSw
          have x0 := (hSw.cell (p := ⟨b, off + j * 2, none⟩) HB1.out.1).trans HB1.out.2
          obtain ⟨z0, z1, -, -⟩ := pr_facts ((hS.out.call hSw).has 1 _ _ rfl).1
          go_simp
          (try with_reducible rfl)
        (try simp only [Act.put, List.getElem_toArray, List.getElem_cons_zero, List.getElem_cons_succ, List.setIfInBounds_toArray, List.set_cons_zero, List.set_cons_succ])
        refine wpAnyH_take (i := 2) (v := ?_) rfl (by decide +kernel) (by decide +kernel) (by decide +kernel) (fun _ _ _ h => h) (Or.inl ⟨by rfl, ?hy⟩) hcur ?_
        case hy =>
          intro w1 hSw
          replace hSw : Below W.heap.size W w1 := hSw
          have x0 := (hSw.cell (p := ⟨b, off + j * 2, none⟩) HB1.out.1).trans HB1.out.2
          obtain ⟨z0, z1, -, -⟩ := pr_facts ((hS.out.call hSw).has 1 _ _ rfl).1
          go_simp
          (try with_reducible rfl)
        (try simp only [Act.put, List.getElem_toArray, List.getElem_cons_zero, List.getElem_cons_succ, List.setIfInBounds_toArray, List.set_cons_zero, List.set_cons_succ])
        refine wpAnyH_take (i := 3) (v := ?_) rfl (by decide +kernel) (by decide +kernel) (by decide +kernel) (fun _ _ _ h => h) (Or.inl ⟨by rfl, ?hy⟩) hcur ?_
        case hy =>
          intro w1 hSw
          replace hSw : Below W.heap.size W w1 := hSw
          have x0 := (hSw.cell (p := ⟨b, off + j * 2, none⟩) HB1.out.1).trans HB1.out.2
          obtain ⟨z0, z1, -, -⟩ := pr_facts ((hS.out.call hSw).has 1 _ _ rfl).1
          go_simp
          (try with_reducible rfl)
        (try simp only [Act.put, List.getElem_toArray, List.getElem_cons_zero, List.getElem_cons_succ, List.setIfInBounds_toArray, List.set_cons_zero, List.set_cons_succ])
        refine wpAnyH_take (i := 4) (v := ?_) rfl (by decide +kernel) (by decide +kernel) (by decide +kernel) (fun _ _ _ h => h) (Or.inl ⟨by rfl, ?hy⟩) hcur ?_
        case hy =>
          intro w1 hSw
          replace hSw : Below W.heap.size W w1 := hSw
          have x0 := (hSw.cell (p := ⟨b, off + j * 2, none⟩) HB1.out.1).trans HB1.out.2
          obtain ⟨z0, z1, -, -⟩ := pr_facts ((hS.out.call hSw).has 1 _ _ rfl).1
          go_simp
          (try with_reducible rfl)
        (try simp only [Act.put, List.getElem_toArray, List.getElem_cons_zero, List.getElem_cons_succ, List.setIfInBounds_toArray, List.set_cons_zero, List.set_cons_succ])
        refine wpAnyH_take (i := 5) (v := ?_) rfl (by decide +kernel) (by decide +kernel) (by decide +kernel) (fun _ _ _ h => h) (Or.inl ⟨by rfl, ?hy⟩) hcur ?_
        case hy =>
          intro w1 hSw
          replace hSw : Below W.heap.size W w1 := hSw
          have x0 := (hSw.cell (p := ⟨b, off + j * 2, none⟩) HB1.out.1).trans HB1.out.2
          obtain ⟨z0, z1, -, -⟩ := pr_facts ((hS.out.call hSw).has 1 _ _ rfl).1
          go_simp
          (try with_reducible rfl)
        (try simp only [Act.put, List.getElem_toArray, List.getElem_cons_zero, List.getElem_cons_succ, List.setIfInBounds_toArray, List.set_cons_zero, List.set_cons_succ])
        refine wpAnyH_ready (rs := [6]) (by decide +kernel) (by simp) ?_
        refine AllReadyH.cons rfl (fun K hK => ?_) AllReadyH.nil
        go_simp
        refine (HL1.out _).mono ?_
        rintro e wn ⟨rfl, hbn⟩
        go_wp2_with fail
        refine hK.out _ _ (below_of hcur hbn) (fun _ => ?_)
        clear hK K
        replace hcur := below_of hcur hbn
        clear hbn
        (try simp only [Act.put, List.getElem_toArray, List.getElem_cons_zero, List.getElem_cons_succ, List.setIfInBounds_toArray, List.set_cons_zero, List.set_cons_succ])
        cases r1
        · refine wpAnyH_take (i := 7) (v := ?_) rfl (by decide +kernel) (by decide +kernel) (by decide +kernel) (fun _ _ _ h => h) (Or.inl ⟨by rfl, ?hy⟩) hcur ?_
          case hy =>
            intro w1 hSw
            replace hSw : Below W.heap.size W w1 := hSw
            have x0 := (hSw.cell (p := ⟨b, off + j * 2, none⟩) HB1.out.1).trans HB1.out.2
            obtain ⟨z0, z1, -, -⟩ := pr_facts ((hS.out.call hSw).has 1 _ _ rfl).1
            go_simp
            (try with_reducible rfl)
          (try simp only [Act.put, List.getElem_toArray, List.getElem_cons_zero, List.getElem_cons_succ, List.setIfInBounds_toArray, List.set_cons_zero, List.set_cons_succ])
          refine wpAnyH_take (i := 8) rfl (by decide +kernel) (by decide +kernel) (by decide +kernel) (fun _ _ _ h => h) (Or.inr ⟨by rfl, rfl⟩) hcur ?_
          (try simp only [Act.put, List.getElem_toArray, List.getElem_cons_zero, List.getElem_cons_succ, List.setIfInBounds_toArray, List.set_cons_zero, List.set_cons_succ])
          refine wpAnyH_take (i := 9) rfl (by decide +kernel) (by decide +kernel) (by decide +kernel) (fun _ _ _ h => h) (Or.inr ⟨by rfl, rfl⟩) hcur ?_
          (try simp only [Act.put, List.getElem_toArray, List.getElem_cons_zero, List.getElem_cons_succ, List.setIfInBounds_toArray, List.set_cons_zero, List.set_cons_succ])
          refine wpAnyH_take (i := 10) rfl (by decide +kernel) (by decide +kernel) (by decide +kernel) (fun _ _ _ h => h) (Or.inr ⟨by rfl, rfl⟩) hcur ?_
          (try simp only [Act.put, List.getElem_toArray, List.getElem_cons_zero, List.getElem_cons_succ, List.setIfInBounds_toArray, List.set_cons_zero, List.set_cons_succ])
          refine wpAnyH_take (i := 11) rfl (by decide +kernel) (by decide +kernel) (by decide +kernel) (fun _ _ _ h => h) (Or.inr ⟨by rfl, rfl⟩) hcur ?_
          (try simp only [Act.put, List.getElem_toArray, List.getElem_cons_zero, List.getElem_cons_succ, List.setIfInBounds_toArray, List.set_cons_zero, List.set_cons_succ])
          refine wpAnyH_take (i := 12) rfl (by decide +kernel) (by decide +kernel) (by decide +kernel) (fun _ _ _ h => h) (Or.inr ⟨by rfl, rfl⟩) hcur ?_
          (try simp only [Act.put, List.getElem_toArray, List.getElem_cons_zero, List.getElem_cons_succ, List.setIfInBounds_toArray, List.set_cons_zero, List.set_cons_succ])
          refine wpAnyH_take (i := 13) rfl (by decide +kernel) (by decide +kernel) (by decide +kernel) (fun _ _ _ h => h) (Or.inr ⟨by rfl, rfl⟩) hcur ?_
          (try simp only [Act.put, List.getElem_toArray, List.getElem_cons_zero, List.getElem_cons_succ, List.setIfInBounds_toArray, List.set_cons_zero, List.set_cons_succ])
          refine wpAnyH_take (i := 14) rfl (by decide +kernel) (by decide +kernel) (by decide +kernel) (fun _ _ _ h => h) (Or.inr ⟨by rfl, rfl⟩) hcur ?_
          (try simp only [Act.put, List.getElem_toArray, List.getElem_cons_zero, List.getElem_cons_succ, List.setIfInBounds_toArray, List.set_cons_zero, List.set_cons_succ])
          refine wpAnyH_take (i := 15) rfl (by decide +kernel) (by decide +kernel) (by decide +kernel) (fun _ _ _ h => h) (Or.inr ⟨by rfl, rfl⟩) hcur ?_
          (try simp only [Act.put, List.getElem_toArray, List.getElem_cons_zero, List.getElem_cons_succ, List.setIfInBounds_toArray, List.set_cons_zero, List.set_cons_succ])
          refine wpAnyH_take (i := 16) rfl (by decide +kernel) (by decide +kernel) (by decide +kernel) (fun _ _ _ h => h) (Or.inr ⟨by rfl, rfl⟩) hcur ?_
          (try simp only [Act.put, List.getElem_toArray, List.getElem_cons_zero, List.getElem_cons_succ, List.setIfInBounds_toArray, List.set_cons_zero, List.set_cons_succ])
          refine wpAnyH_take (i := 17) rfl (by decide +kernel) (by decide +kernel) (by decide +kernel) (fun _ _ _ h => h) (Or.inr ⟨by rfl, rfl⟩) hcur ?_
          (try simp only [Act.put, List.getElem_toArray, List.getElem_cons_zero, List.getElem_cons_succ, List.setIfInBounds_toArray, List.set_cons_zero, List.set_cons_succ])
          refine wpAnyH_take (i := 18) rfl (by decide +kernel) (by decide +kernel) (by decide +kernel) (fun _ _ _ h => h) (Or.inr ⟨by rfl, rfl⟩) hcur ?_
          (try simp only [Act.put, List.getElem_toArray, List.getElem_cons_zero, List.getElem_cons_succ, List.setIfInBounds_toArray, List.set_cons_zero, List.set_cons_succ])
          refine wpAnyH_take (i := 19) rfl (by decide +kernel) (by decide +kernel) (by decide +kernel) (fun _ _ _ h => h) (Or.inr ⟨by rfl, rfl⟩) hcur ?_
          (try simp only [Act.put, List.getElem_toArray, List.getElem_cons_zero, List.getElem_cons_succ, List.setIfInBounds_toArray, List.set_cons_zero, List.set_cons_succ])
          refine wpAnyH_take (i := 20) (v := ?_) rfl (by decide +kernel) (by decide +kernel) (by decide +kernel) (fun _ _ _ h => h) (Or.inl ⟨by rfl, ?hy⟩) hcur ?_
          case hy =>
            intro w1 hSw
            replace hSw : Below W.heap.size W w1 := hSw
            have x0 := (hSw.cell (p := ⟨b, off + j * 2, none⟩) HB1.out.1).trans HB1.out.2
            obtain ⟨z0, z1, -, -⟩ := pr_facts ((hS.out.call hSw).has 1 _ _ rfl).1
            go_simp
            (try with_reducible rfl)
          (try simp only [Act.put, List.getElem_toArray, List.getElem_cons_zero, List.getElem_cons_succ, List.setIfInBounds_toArray, List.set_cons_zero, List.set_cons_succ])
          refine wpAnyH_done (by decide +kernel) ?_ _
          have HZ := Lib.hid (hS.out.call hcur)
          clear hS hcur
          go_wp2_with fail
          go_roundw
          case rel => exact ⟨j + 1, none, by go_num, rfl, by omega, HNX.out.trans (by rfl), HZ.out⟩
          case measure => simp [intOf]; omega
        · refine wpAnyH_take (i := 7) (v := ?_) rfl (by decide +kernel) (by decide +kernel) (by decide +kernel) (fun _ _ _ h => h) (Or.inl ⟨by rfl, ?hy⟩) hcur ?_
          case hy =>
            intro w1 hSw
            replace hSw : Below W.heap.size W w1 := hSw
            have x0 := (hSw.cell (p := ⟨b, off + j * 2, none⟩) HB1.out.1).trans HB1.out.2
            obtain ⟨z0, z1, -, -⟩ := pr_facts ((hS.out.call hSw).has 1 _ _ rfl).1
            go_simp
            (try with_reducible rfl)
          (try simp only [Act.put, List.getElem_toArray, List.getElem_cons_zero, List.getElem_cons_succ, List.setIfInBounds_toArray, List.set_cons_zero, List.set_cons_succ])
          refine wpAnyH_take (i := 8) (v := ?_) rfl (by decide +kernel) (by decide +kernel) (by decide +kernel) (fun _ _ _ h => h) (Or.inl ⟨by rfl, ?hy⟩) hcur ?_
          case hy =>
            intro w1 hSw
            replace hSw : Below W.heap.size W w1 := hSw
            have x0 := (hSw.cell (p := ⟨b, off + j * 2, none⟩) HB1.out.1).trans HB1.out.2
            obtain ⟨z0, z1, -, -⟩ := pr_facts ((hS.out.call hSw).has 1 _ _ rfl).1
            go_simp
            (try with_reducible rfl)
          (try simp only [Act.put, List.getElem_toArray, List.getElem_cons_zero, List.getElem_cons_succ, List.setIfInBounds_toArray, List.set_cons_zero, List.set_cons_succ])
          refine wpAnyH_take (i := 9) (v := ?_) rfl (by decide +kernel) (by decide +kernel) (by decide +kernel) (fun _ _ _ h => h) (Or.inl ⟨by rfl, ?hy⟩) hcur ?_
          case hy =>
            intro w1 hSw
            replace hSw : Below W.heap.size W w1 := hSw
            have x0 := (hSw.cell (p := ⟨b, off + j * 2, none⟩) HB1.out.1).trans HB1.out.2
            obtain ⟨z0, z1, -, -⟩ := pr_facts ((hS.out.call hSw).has 1 _ _ rfl).1
            go_simp
            (try with_reducible rfl)
          (try simp only [Act.put, List.getElem_toArray, List.getElem_cons_zero, List.getElem_cons_succ, List.setIfInBounds_toArray, List.set_cons_zero, List.set_cons_succ])
          refine wpAnyH_take (i := 10) (v := ?_) rfl (by decide +kernel) (by decide +kernel) (by decide +kernel) (fun _ _ _ h => h) (Or.inl ⟨by rfl, ?hy⟩) hcur ?_
          case hy =>
            intro w1 hSw
            replace hSw : Below W.heap.size W w1 := hSw
            have x0 := (hSw.cell (p := ⟨b, off + j * 2, none⟩) HB1.out.1).trans HB1.out.2
            obtain ⟨z0, z1, -, -⟩ := pr_facts ((hS.out.call hSw).has 1 _ _ rfl).1
            go_simp
            (try with_reducible rfl)
          (try simp only [Act.put, List.getElem_toArray, List.getElem_cons_zero, List.getElem_cons_succ, List.setIfInBounds_toArray, List.set_cons_zero, List.set_cons_succ])
          refine wpAnyH_take (i := 11) rfl (by decide +kernel) (by decide +kernel) (by decide +kernel) (fun _ _ _ h => h) (Or.inr ⟨by rfl, rfl⟩) hcur ?_
          (try simp only [Act.put, List.getElem_toArray, List.getElem_cons_zero, List.getElem_cons_succ, List.setIfInBounds_toArray, List.set_cons_zero, List.set_cons_succ])
          refine wpAnyH_take (i := 12) rfl (by decide +kernel) (by decide +kernel) (by decide +kernel) (fun _ _ _ h => h) (Or.inr ⟨by rfl, rfl⟩) hcur ?_
          (try simp only [Act.put, List.getElem_toArray, List.getElem_cons_zero, List.getElem_cons_succ, List.setIfInBounds_toArray, List.set_cons_zero, List.set_cons_succ])
          refine wpAnyH_take (i := 13) rfl (by decide +kernel) (by decide +kernel) (by decide +kernel) (fun _ _ _ h => h) (Or.inr ⟨by rfl, rfl⟩) hcur ?_
          (try simp only [Act.put, List.getElem_toArray, List.getElem_cons_zero, List.getElem_cons_succ, List.setIfInBounds_toArray, List.set_cons_zero, List.set_cons_succ])
          refine wpAnyH_take (i := 14) rfl (by decide +kernel) (by decide +kernel) (by decide +kernel) (fun _ _ _ h => h) (Or.inr ⟨by rfl, rfl⟩) hcur ?_
          (try simp only [Act.put, List.getElem_toArray, List.getElem_cons_zero, List.getElem_cons_succ, List.setIfInBounds_toArray, List.set_cons_zero, List.set_cons_succ])
          refine wpAnyH_take (i := 15) rfl (by decide +kernel) (by decide +kernel) (by decide +kernel) (fun _ _ _ h => h) (Or.inr ⟨by rfl, rfl⟩) hcur ?_
          (try simp only [Act.put, List.getElem_toArray, List.getElem_cons_zero, List.getElem_cons_succ, List.setIfInBounds_toArray, List.set_cons_zero, List.set_cons_succ])
          refine wpAnyH_take (i := 16) rfl (by decide +kernel) (by decide +kernel) (by decide +kernel) (fun _ _ _ h => h) (Or.inr ⟨by rfl, rfl⟩) hcur ?_
          (try simp only [Act.put, List.getElem_toArray, List.getElem_cons_zero, List.getElem_cons_succ, List.setIfInBounds_toArray, List.set_cons_zero, List.set_cons_succ])
          refine wpAnyH_take (i := 17) rfl (by decide +kernel) (by decide +kernel) (by decide +kernel) (fun _ _ _ h => h) (Or.inr ⟨by rfl, rfl⟩) hcur ?_
          (try simp only [Act.put, List.getElem_toArray, List.getElem_cons_zero, List.getElem_cons_succ, List.setIfInBounds_toArray, List.set_cons_zero, List.set_cons_succ])
          refine wpAnyH_take (i := 18) rfl (by decide +kernel) (by decide +kernel) (by decide +kernel) (fun _ _ _ h => h) (Or.inr ⟨by rfl, rfl⟩) hcur ?_
          (try simp only [Act.put, List.getElem_toArray, List.getElem_cons_zero, List.getElem_cons_succ, List.setIfInBounds_toArray, List.set_cons_zero, List.set_cons_succ])
          refine wpAnyH_take (i := 19) (v := ?_) rfl (by decide +kernel) (by decide +kernel) (by decide +kernel) (fun _ _ _ h => h) (Or.inl ⟨by rfl, ?hy⟩) hcur ?_
          case hy =>
            intro w1 hSw
            replace hSw : Below W.heap.size W w1 := hSw
            have x0 := (hSw.cell (p := ⟨b, off + j * 2, none⟩) HB1.out.1).trans HB1.out.2
            obtain ⟨z0, z1, -, -⟩ := pr_facts ((hS.out.call hSw).has 1 _ _ rfl).1
            go_simp
            (try with_reducible rfl)
          (try simp only [Act.put, List.getElem_toArray, List.getElem_cons_zero, List.getElem_cons_succ, List.setIfInBounds_toArray, List.set_cons_zero, List.set_cons_succ])
          refine wpAnyH_take (i := 20) (v := ?_) rfl (by decide +kernel) (by decide +kernel) (by decide +kernel) (fun _ _ _ h => h) (Or.inl ⟨by rfl, ?hy⟩) hcur ?_
          case hy =>
            intro w1 hSw
            replace hSw : Below W.heap.size W w1 := hSw
            have x0 := (hSw.cell (p := ⟨b, off + j * 2, none⟩) HB1.out.1).trans HB1.out.2
            obtain ⟨z0, z1, -, -⟩ := pr_facts ((hS.out.call hSw).has 1 _ _ rfl).1
            go_simp
            (try with_reducible rfl)
          (try simp only [Act.put, List.getElem_toArray, List.getElem_cons_zero, List.getElem_cons_succ, List.setIfInBounds_toArray, List.set_cons_zero, List.set_cons_succ])
          refine wpAnyH_done (by decide +kernel) ?_ _
          replace hS := Lib.hid (hS.out.call hcur)
          have x0 := (hcur.cell (p := ⟨b, off + j * 2, none⟩) HB1.out.1).trans HB1.out.2
          have x1 := (hcur.cell (p := ⟨b, off + j * 2 + 1, none⟩) HB1.out.1).trans HB2.out
          obtain ⟨z0, z1, f0, f1⟩ := pr_facts (hS.out.has 1 _ _ rfl).1
          have HZ := Lib.hid ((hS.out.setc 1 rfl 0 (.string p.key)).setc 1 rfl 1 (.int .u64 p.val))
          simp only [List.set_cons_zero, List.set_cons_succ] at HZ
          clear hS hcur
          go_wp2_with fail
          go_roundw
          case rel => exact ⟨j + 1, some p, by go_num, rfl, by omega, HNX.out.trans (by rfl), HZ.out⟩
          case measure => simp [intOf]; omega
      | some q =>
        have HL2 := Lib.hid (fun W => refless_any p.key q.key W hfj (HFO.out q rfl))
        rw [show nextOk (some q) p = Pl.ls p.key.data.toList q.key.data.toList from rfl] at HNX
        simp only [Option.isSome_some, Option.getD_some] at hS ⊢
        generalize Pl.ls p.key.data.toList q.key.data.toList = r2 at HL2 HNX
        refine wp_region_held_drew (S := fun w' => Below W.heap.size W w') (by kernel_rfl) (Below.drew (Below.refl _ _)) (fun hcur => ?_)
        replace hcur : Below W.heap.size W W.drew := hcur
        generalize W.drew = X0 at hcur ⊢
        refine wpAnyH_take (i := 0) (v := ?_) rfl (by decide +kernel) (by decide +kernel) (by decide +kernel) (fun _ _ _ h => h) (Or.inl ⟨by rfl, ?hy⟩) hcur ?_
        case hy =>
          intro w1 hSw
          replace hSw : Below W.heap.size W w1 := hSw
          have x0 := (hSw.cell (p := ⟨b, off + j * 2, none⟩) HB1.out.1).trans HB1.out.2
          obtain ⟨z0, z1, -, -⟩ := pr_facts ((hS.out.call hSw).has 1 _ _ rfl).1
          go_simp
          (try with_reducible rfl)
        (try simp only [Act.put, List.getElem_toArray, List.getElem_cons_zero, List.getElem_cons_succ, List.setIfInBounds_toArray, List.set_cons_zero, List.set_cons_succ])
        refine wpAnyH_take (i := 1) (v := ?_) rfl (by decide +kernel) (by decide +kernel) (by decide +kernel) (fun _ _ _ h => h) (Or.inl ⟨by rfl, ?hy⟩) hcur ?_
        case hy =>
          intro w1 hSw
          replace hSw : Below W.heap.size W w1 := hSw
          have x0 := (hSw.cell (p := ⟨b, off + j * 2, none⟩) HB1.out.1).trans HB1.out.2
          obtain ⟨z0, z1, -, -⟩ := pr_facts ((hS.out.call hSw).has 1 _ _ rfl).1
          go_simp
          (try with_reducible rfl)
        (try simp only [Act.put, List.getElem_toArray, List.getElem_cons_zero, List.getElem_cons_succ, List.setIfInBounds_toArray, List.set_cons_zero, List.set_cons_succ])
        refine wpAnyH_take (i := 2) (v := ?_) rfl (by decide +kernel) (by decide +kernel) (by decide +kernel) (fun _ _ _ h => h) (Or.inl ⟨by rfl, ?hy⟩) hcur ?_
        case hy =>
          intro w1 hSw
          replace hSw : Below W.heap.size W w1 := hSw
          have x0 := (hSw.cell (p := ⟨b, off + j * 2, none⟩) HB1.out.1).trans HB1.out.2
          obtain ⟨z0, z1, -, -⟩ := pr_facts ((hS.out.call hSw).has 1 _ _ rfl).1
          go_simp
          (try with_reducible rfl)
        (try simp only [Act.put, List.getElem_toArray, List.getElem_cons_zero, List.getElem_cons_succ, List.setIfInBounds_toArray, List.set_cons_zero, List.set_cons_succ])
        refine wpAnyH_take (i := 3) (v := ?_) rfl (by decide +kernel) (by decide +kernel) (by decide +kernel) (fun _ _ _ h => h) (Or.inl ⟨by rfl, ?hy⟩) hcur ?_
        case hy =>
          intro w1 hSw
          replace hSw : Below W.heap.size W w1 := hSw
          have x0 := (hSw.cell (p := ⟨b, off + j * 2, none⟩) HB1.out.1).trans HB1.out.2
          obtain ⟨z0, z1, -, -⟩ := pr_facts ((hS.out.call hSw).has 1 _ _ rfl).1
          go_simp
          (try with_reducible rfl)
        (try simp only [Act.put, List.getElem_toArray, List.getElem_cons_zero, List.getElem_cons_succ, List.setIfInBounds_toArray, List.set_cons_zero, List.set_cons_succ])
        refine wpAnyH_take (i := 4) (v := ?_) rfl (by decide +kernel) (by decide +kernel) (by decide +kernel) (fun _ _ _ h => h) (Or.inl ⟨by rfl, ?hy⟩) hcur ?_
        case hy =>
          intro w1 hSw
          replace hSw : Below W.heap.size W w1 := hSw
          have x0 := (hSw.cell (p := ⟨b, off + j * 2, none⟩) HB1.out.1).trans HB1.out.2
          obtain ⟨z0, z1, -, -⟩ := pr_facts ((hS.out.call hSw).has 1 _ _ rfl).1
          go_simp
          (try with_reducible rfl)
        (try simp only [Act.put, List.getElem_toArray, List.getElem_cons_zero, List.getElem_cons_succ, List.setIfInBounds_toArray, List.set_cons_zero, List.set_cons_succ])
        refine wpAnyH_take (i := 5) (v := ?_) rfl (by decide +kernel) (by decide +kernel) (by decide +kernel) (fun _ _ _ h => h) (Or.inl ⟨by rfl, ?hy⟩) hcur ?_
        case hy =>
          intro w1 hSw
          replace hSw : Below W.heap.size W w1 := hSw
          have x0 := (hSw.cell (p := ⟨b, off + j * 2, none⟩) HB1.out.1).trans HB1.out.2
          obtain ⟨z0, z1, -, -⟩ := pr_facts ((hS.out.call hSw).has 1 _ _ rfl).1
          go_simp
          (try with_reducible rfl)
        (try simp only [Act.put, List.getElem_toArray, List.getElem_cons_zero, List.getElem_cons_succ, List.setIfInBounds_toArray, List.set_cons_zero, List.set_cons_succ])
        refine wpAnyH_ready (rs := [6]) (by decide +kernel) (by simp) ?_
        refine AllReadyH.cons rfl (fun K hK => ?_) AllReadyH.nil
        go_simp
        refine (HL1.out _).mono ?_
        rintro e wn ⟨rfl, hbn⟩
        go_wp2_with fail
        refine hK.out _ _ (below_of hcur hbn) (fun _ => ?_)
        clear hK K
        replace hcur := below_of hcur hbn
        clear hbn
        (try simp only [Act.put, List.getElem_toArray, List.getElem_cons_zero, List.getElem_cons_succ, List.setIfInBounds_toArray, List.set_cons_zero, List.set_cons_succ])
        cases r1
        · refine wpAnyH_take (i := 7) (v := ?_) rfl (by decide +kernel) (by decide +kernel) (by decide +kernel) (fun _ _ _ h => h) (Or.inl ⟨by rfl, ?hy⟩) hcur ?_
          case hy =>
            intro w1 hSw
            replace hSw : Below W.heap.size W w1 := hSw
            have x0 := (hSw.cell (p := ⟨b, off + j * 2, none⟩) HB1.out.1).trans HB1.out.2
            obtain ⟨z0, z1, -, -⟩ := pr_facts ((hS.out.call hSw).has 1 _ _ rfl).1
            go_simp
            (try with_reducible rfl)
          (try simp only [Act.put, List.getElem_toArray, List.getElem_cons_zero, List.getElem_cons_succ, List.setIfInBounds_toArray, List.set_cons_zero, List.set_cons_succ])
          refine wpAnyH_take (i := 8) rfl (by decide +kernel) (by decide +kernel) (by decide +kernel) (fun _ _ _ h => h) (Or.inr ⟨by rfl, rfl⟩) hcur ?_
          (try simp only [Act.put, List.getElem_toArray, List.getElem_cons_zero, List.getElem_cons_succ, List.setIfInBounds_toArray, List.set_cons_zero, List.set_cons_succ])
          refine wpAnyH_take (i := 9) rfl (by decide +kernel) (by decide +kernel) (by decide +kernel) (fun _ _ _ h => h) (Or.inr ⟨by rfl, rfl⟩) hcur ?_
          (try simp only [Act.put, List.getElem_toArray, List.getElem_cons_zero, List.getElem_cons_succ, List.setIfInBounds_toArray, List.set_cons_zero, List.set_cons_succ])
          refine wpAnyH_take (i := 10) rfl (by decide +kernel) (by decide +kernel) (by decide +kernel) (fun _ _ _ h => h) (Or.inr ⟨by rfl, rfl⟩) hcur ?_
          (try simp only [Act.put, List.getElem_toArray, List.getElem_cons_zero, List.getElem_cons_succ, List.setIfInBounds_toArray, List.set_cons_zero, List.set_cons_succ])
          refine wpAnyH_take (i := 11) rfl (by decide +kernel) (by decide +kernel) (by decide +kernel) (fun _ _ _ h => h) (Or.inr ⟨by rfl, rfl⟩) hcur ?_
          (try simp only [Act.put, List.getElem_toArray, List.getElem_cons_zero, List.getElem_cons_succ, List.setIfInBounds_toArray, List.set_cons_zero, List.set_cons_succ])
          refine wpAnyH_take (i := 12) rfl (by decide +kernel) (by decide +kernel) (by decide +kernel) (fun _ _ _ h => h) (Or.inr ⟨by rfl, rfl⟩) hcur ?_
          (try simp only [Act.put, List.getElem_toArray, List.getElem_cons_zero, List.getElem_cons_succ, List.setIfInBounds_toArray, List.set_cons_zero, List.set_cons_succ])
          refine wpAnyH_take (i := 13) rfl (by decide +kernel) (by decide +kernel) (by decide +kernel) (fun _ _ _ h => h) (Or.inr ⟨by rfl, rfl⟩) hcur ?_
          (try simp only [Act.put, List.getElem_toArray, List.getElem_cons_zero, List.getElem_cons_succ, List.setIfInBounds_toArray, List.set_cons_zero, List.set_cons_succ])
          refine wpAnyH_take (i := 14) rfl (by decide +kernel) (by decide +kernel) (by decide +kernel) (fun _ _ _ h => h) (Or.inr ⟨by rfl, rfl⟩) hcur ?_
          (try simp only [Act.put, List.getElem_toArray, List.getElem_cons_zero, List.getElem_cons_succ, List.setIfInBounds_toArray, List.set_cons_zero, List.set_cons_succ])
          refine wpAnyH_take (i := 15) rfl (by decide +kernel) (by decide +kernel) (by decide +kernel) (fun _ _ _ h => h) (Or.inr ⟨by rfl, rfl⟩) hcur ?_
          (try simp only [Act.put, List.getElem_toArray, List.getElem_cons_zero, List.getElem_cons_succ, List.setIfInBounds_toArray, List.set_cons_zero, List.set_cons_succ])
          refine wpAnyH_take (i := 16) rfl (by decide +kernel) (by decide +kernel) (by decide +kernel) (fun _ _ _ h => h) (Or.inr ⟨by rfl, rfl⟩) hcur ?_
          (try simp only [Act.put, List.getElem_toArray, List.getElem_cons_zero, List.getElem_cons_succ, List.setIfInBounds_toArray, List.set_cons_zero, List.set_cons_succ])
          refine wpAnyH_take (i := 17) rfl (by decide +kernel) (by decide +kernel) (by decide +kernel) (fun _ _ _ h => h) (Or.inr ⟨by rfl, rfl⟩) hcur ?_
          (try simp only [Act.put, List.getElem_toArray, List.getElem_cons_zero, List.getElem_cons_succ, List.setIfInBounds_toArray, List.set_cons_zero, List.set_cons_succ])
          refine wpAnyH_take (i := 18) rfl (by decide +kernel) (by decide +kernel) (by decide +kernel) (fun _ _ _ h => h) (Or.inr ⟨by rfl, rfl⟩) hcur ?_
          (try simp only [Act.put, List.getElem_toArray, List.getElem_cons_zero, List.getElem_cons_succ, List.setIfInBounds_toArray, List.set_cons_zero, List.set_cons_succ])
          refine wpAnyH_take (i := 19) rfl (by decide +kernel) (by decide +kernel) (by decide +kernel) (fun _ _ _ h => h) (Or.inr ⟨by rfl, rfl⟩) hcur ?_
          (try simp only [Act.put, List.getElem_toArray, List.getElem_cons_zero, List.getElem_cons_succ, List.setIfInBounds_toArray, List.set_cons_zero, List.set_cons_succ])
          refine wpAnyH_take (i := 20) (v := ?_) rfl (by decide +kernel) (by decide +kernel) (by decide +kernel) (fun _ _ _ h => h) (Or.inl ⟨by rfl, ?hy⟩) hcur ?_
          case hy =>
            intro w1 hSw
            replace hSw : Below W.heap.size W w1 := hSw
            have x0 := (hSw.cell (p := ⟨b, off + j * 2, none⟩) HB1.out.1).trans HB1.out.2
            obtain ⟨z0, z1, -, -⟩ := pr_facts ((hS.out.call hSw).has 1 _ _ rfl).1
            go_simp
            (try with_reducible rfl)
          (try simp only [Act.put, List.getElem_toArray, List.getElem_cons_zero, List.getElem_cons_succ, List.setIfInBounds_toArray, List.set_cons_zero, List.set_cons_succ])
          refine wpAnyH_done (by decide +kernel) ?_ _
          have HZ := Lib.hid (hS.out.call hcur)
          clear hS hcur
          go_wp2_with fail
          go_roundw
          case rel => exact ⟨j + 1, some q, by go_num, rfl, by omega, HNX.out.trans (by rfl), HZ.out⟩
          case measure => simp [intOf]; omega
        · refine wpAnyH_take (i := 7) (v := ?_) rfl (by decide +kernel) (by decide +kernel) (by decide +kernel) (fun _ _ _ h => h) (Or.inl ⟨by rfl, ?hy⟩) hcur ?_
          case hy =>
            intro w1 hSw
            replace hSw : Below W.heap.size W w1 := hSw
            have x0 := (hSw.cell (p := ⟨b, off + j * 2, none⟩) HB1.out.1).trans HB1.out.2
            obtain ⟨z0, z1, -, -⟩ := pr_facts ((hS.out.call hSw).has 1 _ _ rfl).1
            go_simp
            (try with_reducible rfl)
          (try simp only [Act.put, List.getElem_toArray, List.getElem_cons_zero, List.getElem_cons_succ, List.setIfInBounds_toArray, List.set_cons_zero, List.set_cons_succ])
          refine wpAnyH_take (i := 8) (v := ?_) rfl (by decide +kernel) (by decide +kernel) (by decide +kernel) (fun _ _ _ h => h) (Or.inl ⟨by rfl, ?hy⟩) hcur ?_
          case hy =>
            intro w1 hSw
            replace hSw : Below W.heap.size W w1 := hSw
            have x0 := (hSw.cell (p := ⟨b, off + j * 2, none⟩) HB1.out.1).trans HB1.out.2
            obtain ⟨z0, z1, -, -⟩ := pr_facts ((hS.out.call hSw).has 1 _ _ rfl).1
            go_simp
            (try with_reducible rfl)
          (try simp only [Act.put, List.getElem_toArray, List.getElem_cons_zero, List.getElem_cons_succ, List.setIfInBounds_toArray, List.set_cons_zero, List.set_cons_succ])
          refine wpAnyH_take (i := 9) (v := ?_) rfl (by decide +kernel) (by decide +kernel) (by decide +kernel) (fun _ _ _ h => h) (Or.inl ⟨by rfl, ?hy⟩) hcur ?_
          case hy =>
            intro w1 hSw
            replace hSw : Below W.heap.size W w1 := hSw
            have x0 := (hSw.cell (p := ⟨b, off + j * 2, none⟩) HB1.out.1).trans HB1.out.2
            obtain ⟨z0, z1, -, -⟩ := pr_facts ((hS.out.call hSw).has 1 _ _ rfl).1
            go_simp
            (try with_reducible rfl)
          (try simp only [Act.put, List.getElem_toArray, List.getElem_cons_zero, List.getElem_cons_succ, List.setIfInBounds_toArray, List.set_cons_zero, List.set_cons_succ])
          refine wpAnyH_take (i := 10) (v := ?_) rfl (by decide +kernel) (by decide +kernel) (by decide +kernel) (fun _ _ _ h => h) (Or.inl ⟨by rfl, ?hy⟩) hcur ?_
          case hy =>
            intro w1 hSw
            replace hSw : Below W.heap.size W w1 := hSw
            have x0 := (hSw.cell (p := ⟨b, off + j * 2, none⟩) HB1.out.1).trans HB1.out.2
            obtain ⟨z0, z1, -, -⟩ := pr_facts ((hS.out.call hSw).has 1 _ _ rfl).1
            go_simp
            (try with_reducible rfl)
          (try simp only [Act.put, List.getElem_toArray, List.getElem_cons_zero, List.getElem_cons_succ, List.setIfInBounds_toArray, List.set_cons_zero, List.set_cons_succ])
          refine wpAnyH_take (i := 11) (v := ?_) rfl (by decide +kernel) (by decide +kernel) (by decide +kernel) (fun _ _ _ h => h) (Or.inl ⟨by rfl, ?hy⟩) hcur ?_
          case hy =>
            intro w1 hSw
            replace hSw : Below W.heap.size W w1 := hSw
            have x0 := (hSw.cell (p := ⟨b, off + j * 2, none⟩) HB1.out.1).trans HB1.out.2
            obtain ⟨z0, z1, -, -⟩ := pr_facts ((hS.out.call hSw).has 1 _ _ rfl).1
            go_simp
            (try with_reducible rfl)
          (try simp only [Act.put, List.getElem_toArray, List.getElem_cons_zero, List.getElem_cons_succ, List.setIfInBounds_toArray, List.set_cons_zero, List.set_cons_succ])
          refine wpAnyH_take (i := 12) (v := ?_) rfl (by decide +kernel) (by decide +kernel) (by decide +kernel) (fun _ _ _ h => h) (Or.inl ⟨by rfl, ?hy⟩) hcur ?_
          case hy =>
            intro w1 hSw
            replace hSw : Below W.heap.size W w1 := hSw
            have x0 := (hSw.cell (p := ⟨b, off + j * 2, none⟩) HB1.out.1).trans HB1.out.2
            obtain ⟨z0, z1, -, -⟩ := pr_facts ((hS.out.call hSw).has 1 _ _ rfl).1
            go_simp
            (try with_reducible rfl)
          (try simp only [Act.put, List.getElem_toArray, List.getElem_cons_zero, List.getElem_cons_succ, List.setIfInBounds_toArray, List.set_cons_zero, List.set_cons_succ])
          refine wpAnyH_take (i := 13) (v := ?_) rfl (by decide +kernel) (by decide +kernel) (by decide +kernel) (fun _ _ _ h => h) (Or.inl ⟨by rfl, ?hy⟩) hcur ?_
          case hy =>
            intro w1 hSw
            replace hSw : Below W.heap.size W w1 := hSw
            have x0 := (hSw.cell (p := ⟨b, off + j * 2, none⟩) HB1.out.1).trans HB1.out.2
            obtain ⟨z0, z1, -, -⟩ := pr_facts ((hS.out.call hSw).has 1 _ _ rfl).1
            go_simp
            (try with_reducible rfl)
          (try simp only [Act.put, List.getElem_toArray, List.getElem_cons_zero, List.getElem_cons_succ, List.setIfInBounds_toArray, List.set_cons_zero, List.set_cons_succ])
          refine wpAnyH_take (i := 14) (v := ?_) rfl (by decide +kernel) (by decide +kernel) (by decide +kernel) (fun _ _ _ h => h) (Or.inl ⟨by rfl, ?hy⟩) hcur ?_
          case hy =>
            intro w1 hSw
            replace hSw : Below W.heap.size W w1 := hSw
            have x0 := (hSw.cell (p := ⟨b, off + j * 2, none⟩) HB1.out.1).trans HB1.out.2
            obtain ⟨z0, z1, -, -⟩ := pr_facts ((hS.out.call hSw).has 1 _ _ rfl).1
            go_simp
            (try with_reducible rfl)
          (try simp only [Act.put, List.getElem_toArray, List.getElem_cons_zero, List.getElem_cons_succ, List.setIfInBounds_toArray, List.set_cons_zero, List.set_cons_succ])
          refine wpAnyH_take (i := 15) (v := ?_) rfl (by decide +kernel) (by decide +kernel) (by decide +kernel) (fun _ _ _ h => h) (Or.inl ⟨by rfl, ?hy⟩) hcur ?_
          case hy =>
            intro w1 hSw
            replace hSw : Below W.heap.size W w1 := hSw
            have x0 := (hSw.cell (p := ⟨b, off + j * 2, none⟩) HB1.out.1).trans HB1.out.2
            obtain ⟨z0, z1, -, -⟩ := pr_facts ((hS.out.call hSw).has 1 _ _ rfl).1
            go_simp
            (try with_reducible rfl)
          (try simp only [Act.put, List.getElem_toArray, List.getElem_cons_zero, List.getElem_cons_succ, List.setIfInBounds_toArray, List.set_cons_zero, List.set_cons_succ])
          refine wpAnyH_take (i := 16) (v := ?_) rfl (by decide +kernel) (by decide +kernel) (by decide +kernel) (fun _ _ _ h => h) (Or.inl ⟨by rfl, ?hy⟩) hcur ?_
          case hy =>
            intro w1 hSw
            replace hSw : Below W.heap.size W w1 := hSw
            have x0 := (hSw.cell (p := ⟨b, off + j * 2, none⟩) HB1.out.1).trans HB1.out.2
            obtain ⟨z0, z1, -, -⟩ := pr_facts ((hS.out.call hSw).has 1 _ _ rfl).1
            go_simp
            (try with_reducible rfl)
          (try simp only [Act.put, List.getElem_toArray, List.getElem_cons_zero, List.getElem_cons_succ, List.setIfInBounds_toArray, List.set_cons_zero, List.set_cons_succ])
          refine wpAnyH_take (i := 17) (v := ?_) rfl (by decide +kernel) (by decide +kernel) (by decide +kernel) (fun _ _ _ h => h) (Or.inl ⟨by rfl, ?hy⟩) hcur ?_
          case hy =>
            intro w1 hSw
            replace hSw : Below W.heap.size W w1 := hSw
            have x0 := (hSw.cell (p := ⟨b, off + j * 2, none⟩) HB1.out.1).trans HB1.out.2
            obtain ⟨z0, z1, -, -⟩ := pr_facts ((hS.out.call hSw).has 1 _ _ rfl).1
            go_simp
            (try with_reducible rfl)
          (try simp only [Act.put, List.getElem_toArray, List.getElem_cons_zero, List.getElem_cons_succ, List.setIfInBounds_toArray, List.set_cons_zero, List.set_cons_succ])
          refine wpAnyH_ready (rs := [18]) (by decide +kernel) (by simp) ?_
          refine AllReadyH.cons rfl (fun K hK => ?_) AllReadyH.nil
          go_simp
          refine (HL2.out _).mono ?_
          rintro e wn ⟨rfl, hbn⟩
          go_wp2_with fail
          refine hK.out _ _ (below_of hcur hbn) (fun _ => ?_)
          clear hK K
          replace hcur := below_of hcur hbn
          clear hbn
          (try simp only [Act.put, List.getElem_toArray, List.getElem_cons_zero, List.getElem_cons_succ, List.setIfInBounds_toArray, List.set_cons_zero, List.set_cons_succ])
          cases r2
          · refine wpAnyH_take (i := 19) (v := ?_) rfl (by decide +kernel) (by decide +kernel) (by decide +kernel) (fun _ _ _ h => h) (Or.inl ⟨by rfl, ?hy⟩) hcur ?_
            case hy =>
              intro w1 hSw
              replace hSw : Below W.heap.size W w1 := hSw
              have x0 := (hSw.cell (p := ⟨b, off + j * 2, none⟩) HB1.out.1).trans HB1.out.2
              obtain ⟨z0, z1, -, -⟩ := pr_facts ((hS.out.call hSw).has 1 _ _ rfl).1
              go_simp
              (try with_reducible rfl)
            (try simp only [Act.put, List.getElem_toArray, List.getElem_cons_zero, List.getElem_cons_succ, List.setIfInBounds_toArray, List.set_cons_zero, List.set_cons_succ])
            refine wpAnyH_take (i := 20) (v := ?_) rfl (by decide +kernel) (by decide +kernel) (by decide +kernel) (fun _ _ _ h => h) (Or.inl ⟨by rfl, ?hy⟩) hcur ?_
            case hy =>
              intro w1 hSw
              replace hSw : Below W.heap.size W w1 := hSw
              have x0 := (hSw.cell (p := ⟨b, off + j * 2, none⟩) HB1.out.1).trans HB1.out.2
              obtain ⟨z0, z1, -, -⟩ := pr_facts ((hS.out.call hSw).has 1 _ _ rfl).1
              go_simp
              (try with_reducible rfl)
            (try simp only [Act.put, List.getElem_toArray, List.getElem_cons_zero, List.getElem_cons_succ, List.setIfInBounds_toArray, List.set_cons_zero, List.set_cons_succ])
            refine wpAnyH_done (by decide +kernel) ?_ _
            have HZ := Lib.hid (hS.out.call hcur)
            clear hS hcur
            go_wp2_with fail
            go_roundw
            case rel => exact ⟨j + 1, some q, by go_num, rfl, by omega, HNX.out.trans (by rfl), HZ.out⟩
            case measure => simp [intOf]; omega
          · refine wpAnyH_take (i := 19) (v := ?_) rfl (by decide +kernel) (by decide +kernel) (by decide +kernel) (fun _ _ _ h => h) (Or.inl ⟨by rfl, ?hy⟩) hcur ?_
            case hy =>
              intro w1 hSw
              replace hSw : Below W.heap.size W w1 := hSw
              have x0 := (hSw.cell (p := ⟨b, off + j * 2, none⟩) HB1.out.1).trans HB1.out.2
              obtain ⟨z0, z1, -, -⟩ := pr_facts ((hS.out.call hSw).has 1 _ _ rfl).1
              go_simp
              (try with_reducible rfl)
            (try simp only [Act.put, List.getElem_toArray, List.getElem_cons_zero, List.getElem_cons_succ, List.setIfInBounds_toArray, List.set_cons_zero, List.set_cons_succ])
            refine wpAnyH_take (i := 20) (v := ?_) rfl (by decide +kernel) (by decide +kernel) (by decide +kernel) (fun _ _ _ h => h) (Or.inl ⟨by rfl, ?hy⟩) hcur ?_
            case hy =>
              intro w1 hSw
              replace hSw : Below W.heap.size W w1 := hSw
              have x0 := (hSw.cell (p := ⟨b, off + j * 2, none⟩) HB1.out.1).trans HB1.out.2
              obtain ⟨z0, z1, -, -⟩ := pr_facts ((hS.out.call hSw).has 1 _ _ rfl).1
              go_simp
              (try with_reducible rfl)
            (try simp only [Act.put, List.getElem_toArray, List.getElem_cons_zero, List.getElem_cons_succ, List.setIfInBounds_toArray, List.set_cons_zero, List.set_cons_succ])
            refine wpAnyH_done (by decide +kernel) ?_ _
            replace hS := Lib.hid (hS.out.call hcur)
            have x0 := (hcur.cell (p := ⟨b, off + j * 2, none⟩) HB1.out.1).trans HB1.out.2
            have x1 := (hcur.cell (p := ⟨b, off + j * 2 + 1, none⟩) HB1.out.1).trans HB2.out
            obtain ⟨z0, z1, f0, f1⟩ := pr_facts (hS.out.has 1 _ _ rfl).1
            have HZ := Lib.hid ((hS.out.setc 1 rfl 0 (.string p.key)).setc 1 rfl 1 (.int .u64 p.val))
            simp only [List.set_cons_zero, List.set_cons_succ] at HZ
            clear hS hcur
            go_wp2_with fail
            go_roundw
            case rel => exact ⟨j + 1, some p, by go_num, rfl, by omega, HNX.out.trans (by rfl), HZ.out⟩
            case measure => simp [intOf]; omega
    · obtain rfl : j = ps.length := by have := H.out.1; omega
      have HF := Lib.hid H.out.2.1
      rw [List.take_length] at HF
      clear H
      obtain ⟨z0, z1, -, -⟩ := pr_facts (hS.out.has 1 _ _ rfl).1
      obtain ⟨y0, y1, q0, q1⟩ := pr_facts (hS.out.has 0 _ _ rfl).1
      have HZ := Lib.hid ((hS.out.setc 0 rfl 0 (.string (o.getD Pl.zeroP).key)).setc 0 rfl 1 (.int .u64 (o.getD Pl.zeroP).val)).below
      have HE := Lib.hid (show Ending.returned (Value.tuple #[.agg #[.string (o.getD Pl.zeroP).key, .int .u64 (o.getD Pl.zeroP).val], .bool o.isSome]) = .returned (.tuple #[.agg (prCells ((Pl.nextM ps k.data.toList).getD Pl.zeroP)), .bool (Pl.nextM ps k.data.toList).isSome]) from by rw [HF.out]; rfl)
      clear hS HF
      generalize o.getD Pl.zeroP = p at z0 z1 HZ HE ⊢
      go_wp2_with fail
      exact bodyPost_ret (v := .tuple #[.agg #[.string p.key, .int .u64 p.val], .bool o.isSome]) (by simp [results, Try.results43, go_sem, *]) rfl ⟨HE.out, HZ.out⟩

set_option maxRecDepth 100000 in
set_option maxHeartbeats 4000000 in
theorem prev06_any (A : Option Addr) (c : Nat) (ps : List PairD) (k : ByteArray) (all : Bool) (w : World) (h : Prs w A ps.length ps) (hl : ps.length ≤ 10000) (hf : FitP ps) (hk : k.size ≤ maxLen) :
    Calls Try.prog 44 #[.slice A ps.length c, .string k, .bool all] w (Ret (.tuple #[.agg (prCells ((Pl.prevM ps k.data.toList all).getD Pl.zeroP)), .bool (Pl.prevM ps k.data.toList all).isSome]) w) := by
  have HH := Lib.hid h
  have hS := Lib.hid (Sx.start2 w (.cells (prCells Pl.zeroP) 48) (.cells (prCells Pl.zeroP) 48))
  simp only [prCells, Pl.zeroP] at hS
  clear h
  go_enter Try.func44, Try.ntmps44
  go_upto_region 2 with fail
  generalize (w.alloc _).alloc _ = W at hS ⊢
  go_wp2_with fail
  go_loopw [9, 10] (fun ok i wr => ∃ (j : Nat) (o : Option PairD), i = .int .i64 j ∧ ok = .bool o.isSome ∧ Hid (j ≤ ps.length ∧ Pl.prevM (ps.take j) k.data.toList all = o ∧
    Sx w.heap.size w wr [(w.heap.size, .cells #[.string ⟨#[]⟩, .int .u64 0] 48), (w.heap.size + 1, .cells #[.string (o.getD Pl.zeroP).key, .int .u64 (o.getD Pl.zeroP).val] 48)])) (fun _ i _ => ps.length - (intOf i).toNat)
  case atStart => exact ⟨0, none, rfl, rfl, Nat.zero_le _, rfl, hS.out⟩
  case round =>
    obtain ⟨j, o, rfl, rfl, H⟩ := hrel
    clear hS
    have hS := Lib.hid H.out.2.2
    by_cases hlt : j < ps.length
    · obtain ⟨b, off, _, hA, hb, c0, c1⟩ := (HH.out.up hS.out.below).at_ hlt
      subst hA
      have HB1 := Lib.hid (And.intro hb c0)
      have HB2 := Lib.hid c1
      have hnx := prevM_take hlt k.data.toList all
      rw [H.out.2.1] at hnx
      have hfj := hf _ (List.getElem_mem hlt)
      have HNX := Lib.hid hnx
      have HFO := Lib.hid (fun q (e : o = some q) => hf q (List.mem_of_mem_take (prevM_mem (H.out.2.1.trans e))))
      clear H hb c0 c1 hnx
      generalize ps[j] = p at HB1 HB2 HNX hfj
      have HL1 := Lib.hid (fun W => refless_any p.key k W hfj hk)
      rw [prevS_eq] at HNX
      generalize Pl.ls p.key.data.toList k.data.toList = r1 at HL1 HNX
      go_upto_region 6 with fail
      generalize wr = W at hS HB1 HB2 ⊢
      cases o with
      | none =>
        simp only [Option.isSome_none, Option.getD_none, Pl.zeroP] at hS ⊢
        refine wp_region_held_drew (S := fun w' => Below W.heap.size W w') (by kernel_rfl) (Below.drew (Below.refl _ _)) (fun hcur => ?_)
        replace hcur : Below W.heap.size W W.drew := hcur
        generalize W.drew = X0 at hcur ⊢
        refine wpAnyH_take (i := 0) (v := ?_) rfl (by decide +kernel) (by decide +kernel) (by decide +kernel) (fun _ _ _ h => h) (Or.inl ⟨by rfl, ?hy⟩) hcur ?_
        case hy =>
          intro w1 hSw
          replace hSw : Below W.heap.size W w1 := hSw
          have x0 := (hSw.cell (p := ⟨b, off + j * 2, none⟩) HB1.out.1).trans HB1.out.2
          obtain ⟨z0, z1, -, -⟩ := pr_facts ((hS.out.call hSw).has 1 _ _ rfl).1
          go_simp
          (try with_reducible rfl)
        (try simp only [Act.put, List.getElem_toArray, List.getElem_cons_zero, List.getElem_cons_succ, List.setIfInBounds_toArray, List.set_cons_zero, List.set_cons_succ])
        cases all
        · refine wpAnyH_take (i := 1) (v := ?_) rfl (by decide +kernel) (by decide +kernel) (by decide +kernel) (fun _ _ _ h => h) (Or.inl ⟨by rfl, ?hy⟩) hcur ?_
          case hy =>
            intro w1 hSw
            replace hSw : Below W.heap.size W w1 := hSw
            have x0 := (hSw.cell (p := ⟨b, off + j * 2, none⟩) HB1.out.1).trans HB1.out.2
            obtain ⟨z0, z1, -, -⟩ := pr_facts ((hS.out.call hSw).has 1 _ _ rfl).1
            go_simp
            (try with_reducible rfl)
          (try simp only [Act.put, List.getElem_toArray, List.getElem_cons_zero, List.getElem_cons_succ, List.setIfInBounds_toArray, List.set_cons_zero, List.set_cons_succ])
          refine wpAnyH_take (i := 2) (v := ?_) rfl (by decide +kernel) (by decide +kernel) (by decide +kernel) (fun _ _ _ h => h) (Or.inl ⟨by rfl, ?hy⟩) hcur ?_
          case hy =>
            intro w1 hSw
            replace hSw : Below W.heap.size W w1 := hSw
            have x0 := (hSw.cell (p := ⟨b, off + j * 2, none⟩) HB1.out.1).trans HB1.out.2
            obtain ⟨z0, z1, -, -⟩ := pr_facts ((hS.out.call hSw).has 1 _ _ rfl).1
            go_simp
            (try with_reducible rfl)
          (try simp only [Act.put, List.getElem_toArray, List.getElem_cons_zero, List.getElem_cons_succ, List.setIfInBounds_toArray, List.set_cons_zero, List.set_cons_succ])
          refine wpAnyH_take (i := 3) (v := ?_) rfl (by decide +kernel) (by decide +kernel) (by decide +kernel) (fun _ _ _ h => h) (Or.inl ⟨by rfl, ?hy⟩) hcur ?_
          case hy =>
            intro w1 hSw
            replace hSw : Below W.heap.size W w1 := hSw
            have x0 := (hSw.cell (p := ⟨b, off + j * 2, none⟩) HB1.out.1).trans HB1.out.2
            obtain ⟨z0, z1, -, -⟩ := pr_facts ((hS.out.call hSw).has 1 _ _ rfl).1
            go_simp
            (try with_reducible rfl)
          (try simp only [Act.put, List.getElem_toArray, List.getElem_cons_zero, List.getElem_cons_succ, List.setIfInBounds_toArray, List.set_cons_zero, List.set_cons_succ])
          refine wpAnyH_take (i := 4) (v := ?_) rfl (by decide +kernel) (by decide +kernel) (by decide +kernel) (fun _ _ _ h => h) (Or.inl ⟨by rfl, ?hy⟩) hcur ?_
          case hy =>
            intro w1 hSw
            replace hSw : Below W.heap.size W w1 := hSw
            have x0 := (hSw.cell (p := ⟨b, off + j * 2, none⟩) HB1.out.1).trans HB1.out.2
            obtain ⟨z0, z1, -, -⟩ := pr_facts ((hS.out.call hSw).has 1 _ _ rfl).1
            go_simp
            (try with_reducible rfl)
          (try simp only [Act.put, List.getElem_toArray, List.getElem_cons_zero, List.getElem_cons_succ, List.setIfInBounds_toArray, List.set_cons_zero, List.set_cons_succ])
          refine wpAnyH_take (i := 5) (v := ?_) rfl (by decide +kernel) (by decide +kernel) (by decide +kernel) (fun _ _ _ h => h) (Or.inl ⟨by rfl, ?hy⟩) hcur ?_
          case hy =>
            intro w1 hSw
            replace hSw : Below W.heap.size W w1 := hSw
            have x0 := (hSw.cell (p := ⟨b, off + j * 2, none⟩) HB1.out.1).trans HB1.out.2
            obtain ⟨z0, z1, -, -⟩ := pr_facts ((hS.out.call hSw).has 1 _ _ rfl).1
            go_simp
            (try with_reducible rfl)
          (try simp only [Act.put, List.getElem_toArray, List.getElem_cons_zero, List.getElem_cons_succ, List.setIfInBounds_toArray, List.set_cons_zero, List.set_cons_succ])
          refine wpAnyH_take (i := 6) (v := ?_) rfl (by decide +kernel) (by decide +kernel) (by decide +kernel) (fun _ _ _ h => h) (Or.inl ⟨by rfl, ?hy⟩) hcur ?_
          case hy =>
            intro w1 hSw
            replace hSw : Below W.heap.size W w1 := hSw
            have x0 := (hSw.cell (p := ⟨b, off + j * 2, none⟩) HB1.out.1).trans HB1.out.2
            obtain ⟨z0, z1, -, -⟩ := pr_facts ((hS.out.call hSw).has 1 _ _ rfl).1
            go_simp
            (try with_reducible rfl)
          (try simp only [Act.put, List.getElem_toArray, List.getElem_cons_zero, List.getElem_cons_succ, List.setIfInBounds_toArray, List.set_cons_zero, List.set_cons_succ])
          refine wpAnyH_take (i := 7) (v := ?_) rfl (by decide +kernel) (by decide +kernel) (by decide +kernel) (fun _ _ _ h => h) (Or.inl ⟨by rfl, ?hy⟩) hcur ?_
          case hy =>
            intro w1 hSw
            replace hSw : Below W.heap.size W w1 := hSw
            have x0 := (hSw.cell (p := ⟨b, off + j * 2, none⟩) HB1.out.1).trans HB1.out.2
            obtain ⟨z0, z1, -, -⟩ := pr_facts ((hS.out.call hSw).has 1 _ _ rfl).1
            go_simp
            (try with_reducible rfl)
          (try simp only [Act.put, List.getElem_toArray, List.getElem_cons_zero, List.getElem_cons_succ, List.setIfInBounds_toArray, List.set_cons_zero, List.set_cons_succ])
          refine wpAnyH_ready (rs := [8]) (by decide +kernel) (by simp) ?_
          refine AllReadyH.cons rfl (fun K hK => ?_) AllReadyH.nil
          go_simp
          refine (HL1.out _).mono ?_
          rintro e wn ⟨rfl, hbn⟩
          go_wp2_with fail
          refine hK.out _ _ (below_of hcur hbn) (fun _ => ?_)
          clear hK K
          replace hcur := below_of hcur hbn
          clear hbn
          (try simp only [Act.put, List.getElem_toArray, List.getElem_cons_zero, List.getElem_cons_succ, List.setIfInBounds_toArray, List.set_cons_zero, List.set_cons_succ])
          cases r1
          · refine wpAnyH_take (i := 9) (v := ?_) rfl (by decide +kernel) (by decide +kernel) (by decide +kernel) (fun _ _ _ h => h) (Or.inl ⟨by rfl, ?hy⟩) hcur ?_
            case hy =>
              intro w1 hSw
              replace hSw : Below W.heap.size W w1 := hSw
              have x0 := (hSw.cell (p := ⟨b, off + j * 2, none⟩) HB1.out.1).trans HB1.out.2
              obtain ⟨z0, z1, -, -⟩ := pr_facts ((hS.out.call hSw).has 1 _ _ rfl).1
              go_simp
              (try with_reducible rfl)
            (try simp only [Act.put, List.getElem_toArray, List.getElem_cons_zero, List.getElem_cons_succ, List.setIfInBounds_toArray, List.set_cons_zero, List.set_cons_succ])
            refine wpAnyH_take (i := 10) (v := ?_) rfl (by decide +kernel) (by decide +kernel) (by decide +kernel) (fun _ _ _ h => h) (Or.inl ⟨by rfl, ?hy⟩) hcur ?_
            case hy =>
              intro w1 hSw
              replace hSw : Below W.heap.size W w1 := hSw
              have x0 := (hSw.cell (p := ⟨b, off + j * 2, none⟩) HB1.out.1).trans HB1.out.2
              obtain ⟨z0, z1, -, -⟩ := pr_facts ((hS.out.call hSw).has 1 _ _ rfl).1
              go_simp
              (try with_reducible rfl)
            (try simp only [Act.put, List.getElem_toArray, List.getElem_cons_zero, List.getElem_cons_succ, List.setIfInBounds_toArray, List.set_cons_zero, List.set_cons_succ])
            refine wpAnyH_take (i := 11) rfl (by decide +kernel) (by decide +kernel) (by decide +kernel) (fun _ _ _ h => h) (Or.inr ⟨by rfl, rfl⟩) hcur ?_
            (try simp only [Act.put, List.getElem_toArray, List.getElem_cons_zero, List.getElem_cons_succ, List.setIfInBounds_toArray, List.set_cons_zero, List.set_cons_succ])
            refine wpAnyH_take (i := 12) rfl (by decide +kernel) (by decide +kernel) (by decide +kernel) (fun _ _ _ h => h) (Or.inr ⟨by rfl, rfl⟩) hcur ?_
            (try simp only [Act.put, List.getElem_toArray, List.getElem_cons_zero, List.getElem_cons_succ, List.setIfInBounds_toArray, List.set_cons_zero, List.set_cons_succ])
            refine wpAnyH_take (i := 13) rfl (by decide +kernel) (by decide +kernel) (by decide +kernel) (fun _ _ _ h => h) (Or.inr ⟨by rfl, rfl⟩) hcur ?_
            (try simp only [Act.put, List.getElem_toArray, List.getElem_cons_zero, List.getElem_cons_succ, List.setIfInBounds_toArray, List.set_cons_zero, List.set_cons_succ])
            refine wpAnyH_take (i := 14) rfl (by decide +kernel) (by decide +kernel) (by decide +kernel) (fun _ _ _ h => h) (Or.inr ⟨by rfl, rfl⟩) hcur ?_
            (try simp only [Act.put, List.getElem_toArray, List.getElem_cons_zero, List.getElem_cons_succ, List.setIfInBounds_toArray, List.set_cons_zero, List.set_cons_succ])
            refine wpAnyH_take (i := 15) rfl (by decide +kernel) (by decide +kernel) (by decide +kernel) (fun _ _ _ h => h) (Or.inr ⟨by rfl, rfl⟩) hcur ?_
            (try simp only [Act.put, List.getElem_toArray, List.getElem_cons_zero, List.getElem_cons_succ, List.setIfInBounds_toArray, List.set_cons_zero, List.set_cons_succ])
            refine wpAnyH_take (i := 16) rfl (by decide +kernel) (by decide +kernel) (by decide +kernel) (fun _ _ _ h => h) (Or.inr ⟨by rfl, rfl⟩) hcur ?_
            (try simp only [Act.put, List.getElem_toArray, List.getElem_cons_zero, List.getElem_cons_succ, List.setIfInBounds_toArray, List.set_cons_zero, List.set_cons_succ])
            refine wpAnyH_take (i := 17) rfl (by decide +kernel) (by decide +kernel) (by decide +kernel) (fun _ _ _ h => h) (Or.inr ⟨by rfl, rfl⟩) hcur ?_
            (try simp only [Act.put, List.getElem_toArray, List.getElem_cons_zero, List.getElem_cons_succ, List.setIfInBounds_toArray, List.set_cons_zero, List.set_cons_succ])
            refine wpAnyH_take (i := 18) rfl (by decide +kernel) (by decide +kernel) (by decide +kernel) (fun _ _ _ h => h) (Or.inr ⟨by rfl, rfl⟩) hcur ?_
            (try simp only [Act.put, List.getElem_toArray, List.getElem_cons_zero, List.getElem_cons_succ, List.setIfInBounds_toArray, List.set_cons_zero, List.set_cons_succ])
            refine wpAnyH_take (i := 19) rfl (by decide +kernel) (by decide +kernel) (by decide +kernel) (fun _ _ _ h => h) (Or.inr ⟨by rfl, rfl⟩) hcur ?_
            (try simp only [Act.put, List.getElem_toArray, List.getElem_cons_zero, List.getElem_cons_succ, List.setIfInBounds_toArray, List.set_cons_zero, List.set_cons_succ])
            refine wpAnyH_take (i := 20) rfl (by decide +kernel) (by decide +kernel) (by decide +kernel) (fun _ _ _ h => h) (Or.inr ⟨by rfl, rfl⟩) hcur ?_
            (try simp only [Act.put, List.getElem_toArray, List.getElem_cons_zero, List.getElem_cons_succ, List.setIfInBounds_toArray, List.set_cons_zero, List.set_cons_succ])
            refine wpAnyH_take (i := 21) rfl (by decide +kernel) (by decide +kernel) (by decide +kernel) (fun _ _ _ h => h) (Or.inr ⟨by rfl, rfl⟩) hcur ?_
            (try simp only [Act.put, List.getElem_toArray, List.getElem_cons_zero, List.getElem_cons_succ, List.setIfInBounds_toArray, List.set_cons_zero, List.set_cons_succ])
            refine wpAnyH_take (i := 22) rfl (by decide +kernel) (by decide +kernel) (by decide +kernel) (fun _ _ _ h => h) (Or.inr ⟨by rfl, rfl⟩) hcur ?_
            (try simp only [Act.put, List.getElem_toArray, List.getElem_cons_zero, List.getElem_cons_succ, List.setIfInBounds_toArray, List.set_cons_zero, List.set_cons_succ])
            refine wpAnyH_take (i := 23) (v := ?_) rfl (by decide +kernel) (by decide +kernel) (by decide +kernel) (fun _ _ _ h => h) (Or.inl ⟨by rfl, ?hy⟩) hcur ?_
            case hy =>
              intro w1 hSw
              replace hSw : Below W.heap.size W w1 := hSw
              have x0 := (hSw.cell (p := ⟨b, off + j * 2, none⟩) HB1.out.1).trans HB1.out.2
              obtain ⟨z0, z1, -, -⟩ := pr_facts ((hS.out.call hSw).has 1 _ _ rfl).1
              go_simp
              (try with_reducible rfl)
            (try simp only [Act.put, List.getElem_toArray, List.getElem_cons_zero, List.getElem_cons_succ, List.setIfInBounds_toArray, List.set_cons_zero, List.set_cons_succ])
            refine wpAnyH_done (by decide +kernel) ?_ _
            have HZ := Lib.hid (hS.out.call hcur)
            clear hS hcur
            go_wp2_with fail
            go_roundw
            case rel => exact ⟨j + 1, none, by go_num, rfl, by omega, HNX.out.trans (by rfl), HZ.out⟩
            case measure => simp [intOf]; omega
          · refine wpAnyH_take (i := 9) (v := ?_) rfl (by decide +kernel) (by decide +kernel) (by decide +kernel) (fun _ _ _ h => h) (Or.inl ⟨by rfl, ?hy⟩) hcur ?_
            case hy =>
              intro w1 hSw
              replace hSw : Below W.heap.size W w1 := hSw
              have x0 := (hSw.cell (p := ⟨b, off + j * 2, none⟩) HB1.out.1).trans HB1.out.2
              obtain ⟨z0, z1, -, -⟩ := pr_facts ((hS.out.call hSw).has 1 _ _ rfl).1
              go_simp
              (try with_reducible rfl)
            (try simp only [Act.put, List.getElem_toArray, List.getElem_cons_zero, List.getElem_cons_succ, List.setIfInBounds_toArray, List.set_cons_zero, List.set_cons_succ])
            refine wpAnyH_take (i := 10) (v := ?_) rfl (by decide +kernel) (by decide +kernel) (by decide +kernel) (fun _ _ _ h => h) (Or.inl ⟨by rfl, ?hy⟩) hcur ?_
            case hy =>
              intro w1 hSw
              replace hSw : Below W.heap.size W w1 := hSw
              have x0 := (hSw.cell (p := ⟨b, off + j * 2, none⟩) HB1.out.1).trans HB1.out.2
              obtain ⟨z0, z1, -, -⟩ := pr_facts ((hS.out.call hSw).has 1 _ _ rfl).1
              go_simp
              (try with_reducible rfl)
            (try simp only [Act.put, List.getElem_toArray, List.getElem_cons_zero, List.getElem_cons_succ, List.setIfInBounds_toArray, List.set_cons_zero, List.set_cons_succ])
            refine wpAnyH_take (i := 11) (v := ?_) rfl (by decide +kernel) (by decide +kernel) (by decide +kernel) (fun _ _ _ h => h) (Or.inl ⟨by rfl, ?hy⟩) hcur ?_
            case hy =>
              intro w1 hSw
              replace hSw : Below W.heap.size W w1 := hSw
              have x0 := (hSw.cell (p := ⟨b, off + j * 2, none⟩) HB1.out.1).trans HB1.out.2
              obtain ⟨z0, z1, -, -⟩ := pr_facts ((hS.out.call hSw).has 1 _ _ rfl).1
              go_simp
              (try with_reducible rfl)
            (try simp only [Act.put, List.getElem_toArray, List.getElem_cons_zero, List.getElem_cons_succ, List.setIfInBounds_toArray, List.set_cons_zero, List.set_cons_succ])
            refine wpAnyH_take (i := 12) (v := ?_) rfl (by decide +kernel) (by decide +kernel) (by decide +kernel) (fun _ _ _ h => h) (Or.inl ⟨by rfl, ?hy⟩) hcur ?_
            case hy =>
              intro w1 hSw
              replace hSw : Below W.heap.size W w1 := hSw
              have x0 := (hSw.cell (p := ⟨b, off + j * 2, none⟩) HB1.out.1).trans HB1.out.2
              obtain ⟨z0, z1, -, -⟩ := pr_facts ((hS.out.call hSw).has 1 _ _ rfl).1
              go_simp
              (try with_reducible rfl)
            (try simp only [Act.put, List.getElem_toArray, List.getElem_cons_zero, List.getElem_cons_succ, List.setIfInBounds_toArray, List.set_cons_zero, List.set_cons_succ])
            refine wpAnyH_take (i := 13) (v := ?_) rfl (by decide +kernel) (by decide +kernel) (by decide +kernel) (fun _ _ _ h => h) (Or.inl ⟨by rfl, ?hy⟩) hcur ?_
            case hy =>
              intro w1 hSw
              replace hSw : Below W.heap.size W w1 := hSw
              have x0 := (hSw.cell (p := ⟨b, off + j * 2, none⟩) HB1.out.1).trans HB1.out.2
              obtain ⟨z0, z1, -, -⟩ := pr_facts ((hS.out.call hSw).has 1 _ _ rfl).1
              go_simp
              (try with_reducible rfl)
            (try simp only [Act.put, List.getElem_toArray, List.getElem_cons_zero, List.getElem_cons_succ, List.setIfInBounds_toArray, List.set_cons_zero, List.set_cons_succ])
            refine wpAnyH_take (i := 14) rfl (by decide +kernel) (by decide +kernel) (by decide +kernel) (fun _ _ _ h => h) (Or.inr ⟨by rfl, rfl⟩) hcur ?_
            (try simp only [Act.put, List.getElem_toArray, List.getElem_cons_zero, List.getElem_cons_succ, List.setIfInBounds_toArray, List.set_cons_zero, List.set_cons_succ])
            refine wpAnyH_take (i := 15) rfl (by decide +kernel) (by decide +kernel) (by decide +kernel) (fun _ _ _ h => h) (Or.inr ⟨by rfl, rfl⟩) hcur ?_
            (try simp only [Act.put, List.getElem_toArray, List.getElem_cons_zero, List.getElem_cons_succ, List.setIfInBounds_toArray, List.set_cons_zero, List.set_cons_succ])
            refine wpAnyH_take (i := 16) rfl (by decide +kernel) (by decide +kernel) (by decide +kernel) (fun _ _ _ h => h) (Or.inr ⟨by rfl, rfl⟩) hcur ?_
            (try simp only [Act.put, List.getElem_toArray, List.getElem_cons_zero, List.getElem_cons_succ, List.setIfInBounds_toArray, List.set_cons_zero, List.set_cons_succ])
            refine wpAnyH_take (i := 17) rfl (by decide +kernel) (by decide +kernel) (by decide +kernel) (fun _ _ _ h => h) (Or.inr ⟨by rfl, rfl⟩) hcur ?_
            (try simp only [Act.put, List.getElem_toArray, List.getElem_cons_zero, List.getElem_cons_succ, List.setIfInBounds_toArray, List.set_cons_zero, List.set_cons_succ])
            refine wpAnyH_take (i := 18) rfl (by decide +kernel) (by decide +kernel) (by decide +kernel) (fun _ _ _ h => h) (Or.inr ⟨by rfl, rfl⟩) hcur ?_
            (try simp only [Act.put, List.getElem_toArray, List.getElem_cons_zero, List.getElem_cons_succ, List.setIfInBounds_toArray, List.set_cons_zero, List.set_cons_succ])
            refine wpAnyH_take (i := 19) rfl (by decide +kernel) (by decide +kernel) (by decide +kernel) (fun _ _ _ h => h) (Or.inr ⟨by rfl, rfl⟩) hcur ?_
            (try simp only [Act.put, List.getElem_toArray, List.getElem_cons_zero, List.getElem_cons_succ, List.setIfInBounds_toArray, List.set_cons_zero, List.set_cons_succ])
            refine wpAnyH_take (i := 20) rfl (by decide +kernel) (by decide +kernel) (by decide +kernel) (fun _ _ _ h => h) (Or.inr ⟨by rfl, rfl⟩) hcur ?_
            (try simp only [Act.put, List.getElem_toArray, List.getElem_cons_zero, List.getElem_cons_succ, List.setIfInBounds_toArray, List.set_cons_zero, List.set_cons_succ])
            refine wpAnyH_take (i := 21) rfl (by decide +kernel) (by decide +kernel) (by decide +kernel) (fun _ _ _ h => h) (Or.inr ⟨by rfl, rfl⟩) hcur ?_
            (try simp only [Act.put, List.getElem_toArray, List.getElem_cons_zero, List.getElem_cons_succ, List.setIfInBounds_toArray, List.set_cons_zero, List.set_cons_succ])
            refine wpAnyH_take (i := 22) (v := ?_) rfl (by decide +kernel) (by decide +kernel) (by decide +kernel) (fun _ _ _ h => h) (Or.inl ⟨by rfl, ?hy⟩) hcur ?_
            case hy =>
              intro w1 hSw
              replace hSw : Below W.heap.size W w1 := hSw
              have x0 := (hSw.cell (p := ⟨b, off + j * 2, none⟩) HB1.out.1).trans HB1.out.2
              obtain ⟨z0, z1, -, -⟩ := pr_facts ((hS.out.call hSw).has 1 _ _ rfl).1
              go_simp
              (try with_reducible rfl)
            (try simp only [Act.put, List.getElem_toArray, List.getElem_cons_zero, List.getElem_cons_succ, List.setIfInBounds_toArray, List.set_cons_zero, List.set_cons_succ])
            refine wpAnyH_take (i := 23) (v := ?_) rfl (by decide +kernel) (by decide +kernel) (by decide +kernel) (fun _ _ _ h => h) (Or.inl ⟨by rfl, ?hy⟩) hcur ?_
            case hy =>
              intro w1 hSw
              replace hSw : Below W.heap.size W w1 := hSw
              have x0 := (hSw.cell (p := ⟨b, off + j * 2, none⟩) HB1.out.1).trans HB1.out.2
              obtain ⟨z0, z1, -, -⟩ := pr_facts ((hS.out.call hSw).has 1 _ _ rfl).1
              go_simp
              (try with_reducible rfl)
            (try simp only [Act.put, List.getElem_toArray, List.getElem_cons_zero, List.getElem_cons_succ, List.setIfInBounds_toArray, List.set_cons_zero, List.set_cons_succ])
            refine wpAnyH_done (by decide +kernel) ?_ _
            replace hS := Lib.hid (hS.out.call hcur)
            have x0 := (hcur.cell (p := ⟨b, off + j * 2, none⟩) HB1.out.1).trans HB1.out.2
            have x1 := (hcur.cell (p := ⟨b, off + j * 2 + 1, none⟩) HB1.out.1).trans HB2.out
            obtain ⟨z0, z1, f0, f1⟩ := pr_facts (hS.out.has 1 _ _ rfl).1
            have HZ := Lib.hid ((hS.out.setc 1 rfl 0 (.string p.key)).setc 1 rfl 1 (.int .u64 p.val))
            simp only [List.set_cons_zero, List.set_cons_succ] at HZ
            clear hS hcur
            go_wp2_with fail
            go_roundw
            case rel => exact ⟨j + 1, some p, by go_num, rfl, by omega, HNX.out.trans (by rfl), HZ.out⟩
            case measure => simp [intOf]; omega
        · refine wpAnyH_take (i := 1) (v := ?_) rfl (by decide +kernel) (by decide +kernel) (by decide +kernel) (fun _ _ _ h => h) (Or.inl ⟨by rfl, ?hy⟩) hcur ?_
          case hy =>
            intro w1 hSw
            replace hSw : Below W.heap.size W w1 := hSw
            have x0 := (hSw.cell (p := ⟨b, off + j * 2, none⟩) HB1.out.1).trans HB1.out.2
            obtain ⟨z0, z1, -, -⟩ := pr_facts ((hS.out.call hSw).has 1 _ _ rfl).1
            go_simp
            (try with_reducible rfl)
          (try simp only [Act.put, List.getElem_toArray, List.getElem_cons_zero, List.getElem_cons_succ, List.setIfInBounds_toArray, List.set_cons_zero, List.set_cons_succ])
          refine wpAnyH_take (i := 2) rfl (by decide +kernel) (by decide +kernel) (by decide +kernel) (fun _ _ _ h => h) (Or.inr ⟨by rfl, rfl⟩) hcur ?_
          (try simp only [Act.put, List.getElem_toArray, List.getElem_cons_zero, List.getElem_cons_succ, List.setIfInBounds_toArray, List.set_cons_zero, List.set_cons_succ])
          refine wpAnyH_take (i := 3) rfl (by decide +kernel) (by decide +kernel) (by decide +kernel) (fun _ _ _ h => h) (Or.inr ⟨by rfl, rfl⟩) hcur ?_
          (try simp only [Act.put, List.getElem_toArray, List.getElem_cons_zero, List.getElem_cons_succ, List.setIfInBounds_toArray, List.set_cons_zero, List.set_cons_succ])
          refine wpAnyH_take (i := 4) rfl (by decide +kernel) (by decide +kernel) (by decide +kernel) (fun _ _ _ h => h) (Or.inr ⟨by rfl, rfl⟩) hcur ?_
          (try simp only [Act.put, List.getElem_toArray, List.getElem_cons_zero, List.getElem_cons_succ, List.setIfInBounds_toArray, List.set_cons_zero, List.set_cons_succ])
          refine wpAnyH_take (i := 5) rfl (by decide +kernel) (by decide +kernel) (by decide +kernel) (fun _ _ _ h => h) (Or.inr ⟨by rfl, rfl⟩) hcur ?_
          (try simp only [Act.put, List.getElem_toArray, List.getElem_cons_zero, List.getElem_cons_succ, List.setIfInBounds_toArray, List.set_cons_zero, List.set_cons_succ])
          refine wpAnyH_take (i := 6) rfl (by decide +kernel) (by decide +kernel) (by decide +kernel) (fun _ _ _ h => h) (Or.inr ⟨by rfl, rfl⟩) hcur ?_
          (try simp only [Act.put, List.getElem_toArray, List.getElem_cons_zero, List.getElem_cons_succ, List.setIfInBounds_toArray, List.set_cons_zero, List.set_cons_succ])
          refine wpAnyH_take (i := 7) rfl (by decide +kernel) (by decide +kernel) (by decide +kernel) (fun _ _ _ h => h) (Or.inr ⟨by rfl, rfl⟩) hcur ?_
          (try simp only [Act.put, List.getElem_toArray, List.getElem_cons_zero, List.getElem_cons_succ, List.setIfInBounds_toArray, List.set_cons_zero, List.set_cons_succ])
          refine wpAnyH_take (i := 8) rfl (by decide +kernel) (by decide +kernel) (by decide +kernel) (fun _ _ _ h => h) (Or.inr ⟨by rfl, rfl⟩) hcur ?_
          (try simp only [Act.put, List.getElem_toArray, List.getElem_cons_zero, List.getElem_cons_succ, List.setIfInBounds_toArray, List.set_cons_zero, List.set_cons_succ])
          refine wpAnyH_take (i := 9) (v := ?_) rfl (by decide +kernel) (by decide +kernel) (by decide +kernel) (fun _ _ _ h => h) (Or.inl ⟨by rfl, ?hy⟩) hcur ?_
          case hy =>
            intro w1 hSw
            replace hSw : Below W.heap.size W w1 := hSw
            have x0 := (hSw.cell (p := ⟨b, off + j * 2, none⟩) HB1.out.1).trans HB1.out.2
            obtain ⟨z0, z1, -, -⟩ := pr_facts ((hS.out.call hSw).has 1 _ _ rfl).1
            go_simp
            (try with_reducible rfl)
          (try simp only [Act.put, List.getElem_toArray, List.getElem_cons_zero, List.getElem_cons_succ, List.setIfInBounds_toArray, List.set_cons_zero, List.set_cons_succ])
          refine wpAnyH_take (i := 10) (v := ?_) rfl (by decide +kernel) (by decide +kernel) (by decide +kernel) (fun _ _ _ h => h) (Or.inl ⟨by rfl, ?hy⟩) hcur ?_
          case hy =>
            intro w1 hSw
            replace hSw : Below W.heap.size W w1 := hSw
            have x0 := (hSw.cell (p := ⟨b, off + j * 2, none⟩) HB1.out.1).trans HB1.out.2
            obtain ⟨z0, z1, -, -⟩ := pr_facts ((hS.out.call hSw).has 1 _ _ rfl).1
            go_simp
            (try with_reducible rfl)
          (try simp only [Act.put, List.getElem_toArray, List.getElem_cons_zero, List.getElem_cons_succ, List.setIfInBounds_toArray, List.set_cons_zero, List.set_cons_succ])
          refine wpAnyH_take (i := 11) (v := ?_) rfl (by decide +kernel) (by decide +kernel) (by decide +kernel) (fun _ _ _ h => h) (Or.inl ⟨by rfl, ?hy⟩) hcur ?_
          case hy =>
            intro w1 hSw
            replace hSw : Below W.heap.size W w1 := hSw
            have x0 := (hSw.cell (p := ⟨b, off + j * 2, none⟩) HB1.out.1).trans HB1.out.2
            obtain ⟨z0, z1, -, -⟩ := pr_facts ((hS.out.call hSw).has 1 _ _ rfl).1
            go_simp
            (try with_reducible rfl)
          (try simp only [Act.put, List.getElem_toArray, List.getElem_cons_zero, List.getElem_cons_succ, List.setIfInBounds_toArray, List.set_cons_zero, List.set_cons_succ])
          refine wpAnyH_take (i := 12) (v := ?_) rfl (by decide +kernel) (by decide +kernel) (by decide +kernel) (fun _ _ _ h => h) (Or.inl ⟨by rfl, ?hy⟩) hcur ?_
          case hy =>
            intro w1 hSw
            replace hSw : Below W.heap.size W w1 := hSw
            have x0 := (hSw.cell (p := ⟨b, off + j * 2, none⟩) HB1.out.1).trans HB1.out.2
            obtain ⟨z0, z1, -, -⟩ := pr_facts ((hS.out.call hSw).has 1 _ _ rfl).1
            go_simp
            (try with_reducible rfl)
          (try simp only [Act.put, List.getElem_toArray, List.getElem_cons_zero, List.getElem_cons_succ, List.setIfInBounds_toArray, List.set_cons_zero, List.set_cons_succ])
          refine wpAnyH_take (i := 13) (v := ?_) rfl (by decide +kernel) (by decide +kernel) (by decide +kernel) (fun _ _ _ h => h) (Or.inl ⟨by rfl, ?hy⟩) hcur ?_
          case hy =>
            intro w1 hSw
            replace hSw : Below W.heap.size W w1 := hSw
            have x0 := (hSw.cell (p := ⟨b, off + j * 2, none⟩) HB1.out.1).trans HB1.out.2
            obtain ⟨z0, z1, -, -⟩ := pr_facts ((hS.out.call hSw).has 1 _ _ rfl).1
            go_simp
            (try with_reducible rfl)
          (try simp only [Act.put, List.getElem_toArray, List.getElem_cons_zero, List.getElem_cons_succ, List.setIfInBounds_toArray, List.set_cons_zero, List.set_cons_succ])
          refine wpAnyH_take (i := 14) rfl (by decide +kernel) (by decide +kernel) (by decide +kernel) (fun _ _ _ h => h) (Or.inr ⟨by rfl, rfl⟩) hcur ?_
          (try simp only [Act.put, List.getElem_toArray, List.getElem_cons_zero, List.getElem_cons_succ, List.setIfInBounds_toArray, List.set_cons_zero, List.set_cons_succ])
          refine wpAnyH_take (i := 15) rfl (by decide +kernel) (by decide +kernel) (by decide +kernel) (fun _ _ _ h => h) (Or.inr ⟨by rfl, rfl⟩) hcur ?_
          (try simp only [Act.put, List.getElem_toArray, List.getElem_cons_zero, List.getElem_cons_succ, List.setIfInBounds_toArray, List.set_cons_zero, List.set_cons_succ])
          refine wpAnyH_take (i := 16) rfl (by decide +kernel) (by decide +kernel) (by decide +kernel) (fun _ _ _ h => h) (Or.inr ⟨by rfl, rfl⟩) hcur ?_
          (try simp only [Act.put, List.getElem_toArray, List.getElem_cons_zero, List.getElem_cons_succ, List.setIfInBounds_toArray, List.set_cons_zero, List.set_cons_succ])
          refine wpAnyH_take (i := 17) rfl (by decide +kernel) (by decide +kernel) (by decide +kernel) (fun _ _ _ h => h) (Or.inr ⟨by rfl, rfl⟩) hcur ?_
          (try simp only [Act.put, List.getElem_toArray, List.getElem_cons_zero, List.getElem_cons_succ, List.setIfInBounds_toArray, List.set_cons_zero, List.set_cons_succ])
          refine wpAnyH_take (i := 18) rfl (by decide +kernel) (by decide +kernel) (by decide +kernel) (fun _ _ _ h => h) (Or.inr ⟨by rfl, rfl⟩) hcur ?_
          (try simp only [Act.put, List.getElem_toArray, List.getElem_cons_zero, List.getElem_cons_succ, List.setIfInBounds_toArray, List.set_cons_zero, List.set_cons_succ])
          refine wpAnyH_take (i := 19) rfl (by decide +kernel) (by decide +kernel) (by decide +kernel) (fun _ _ _ h => h) (Or.inr ⟨by rfl, rfl⟩) hcur ?_
          (try simp only [Act.put, List.getElem_toArray, List.getElem_cons_zero, List.getElem_cons_succ, List.setIfInBounds_toArray, List.set_cons_zero, List.set_cons_succ])
          refine wpAnyH_take (i := 20) rfl (by decide +kernel) (by decide +kernel) (by decide +kernel) (fun _ _ _ h => h) (Or.inr ⟨by rfl, rfl⟩) hcur ?_
          (try simp only [Act.put, List.getElem_toArray, List.getElem_cons_zero, List.getElem_cons_succ, List.setIfInBounds_toArray, List.set_cons_zero, List.set_cons_succ])
          refine wpAnyH_take (i := 21) rfl (by decide +kernel) (by decide +kernel) (by decide +kernel) (fun _ _ _ h => h) (Or.inr ⟨by rfl, rfl⟩) hcur ?_
          (try simp only [Act.put, List.getElem_toArray, List.getElem_cons_zero, List.getElem_cons_succ, List.setIfInBounds_toArray, List.set_cons_zero, List.set_cons_succ])
          refine wpAnyH_take (i := 22) (v := ?_) rfl (by decide +kernel) (by decide +kernel) (by decide +kernel) (fun _ _ _ h => h) (Or.inl ⟨by rfl, ?hy⟩) hcur ?_
          case hy =>
            intro w1 hSw
            replace hSw : Below W.heap.size W w1 := hSw
            have x0 := (hSw.cell (p := ⟨b, off + j * 2, none⟩) HB1.out.1).trans HB1.out.2
            obtain ⟨z0, z1, -, -⟩ := pr_facts ((hS.out.call hSw).has 1 _ _ rfl).1
            go_simp
            (try with_reducible rfl)
          (try simp only [Act.put, List.getElem_toArray, List.getElem_cons_zero, List.getElem_cons_succ, List.setIfInBounds_toArray, List.set_cons_zero, List.set_cons_succ])
          refine wpAnyH_take (i := 23) (v := ?_) rfl (by decide +kernel) (by decide +kernel) (by decide +kernel) (fun _ _ _ h => h) (Or.inl ⟨by rfl, ?hy⟩) hcur ?_
          case hy =>
            intro w1 hSw
            replace hSw : Below W.heap.size W w1 := hSw
            have x0 := (hSw.cell (p := ⟨b, off + j * 2, none⟩) HB1.out.1).trans HB1.out.2
            obtain ⟨z0, z1, -, -⟩ := pr_facts ((hS.out.call hSw).has 1 _ _ rfl).1
            go_simp
            (try with_reducible rfl)
          (try simp only [Act.put, List.getElem_toArray, List.getElem_cons_zero, List.getElem_cons_succ, List.setIfInBounds_toArray, List.set_cons_zero, List.set_cons_succ])
          refine wpAnyH_done (by decide +kernel) ?_ _
          replace hS := Lib.hid (hS.out.call hcur)
          have x0 := (hcur.cell (p := ⟨b, off + j * 2, none⟩) HB1.out.1).trans HB1.out.2
          have x1 := (hcur.cell (p := ⟨b, off + j * 2 + 1, none⟩) HB1.out.1).trans HB2.out
          obtain ⟨z0, z1, f0, f1⟩ := pr_facts (hS.out.has 1 _ _ rfl).1
          have HZ := Lib.hid ((hS.out.setc 1 rfl 0 (.string p.key)).setc 1 rfl 1 (.int .u64 p.val))
          simp only [List.set_cons_zero, List.set_cons_succ] at HZ
          clear hS hcur
          go_wp2_with fail
          go_roundw
          case rel => exact ⟨j + 1, some p, by go_num, rfl, by omega, HNX.out.trans (by rfl), HZ.out⟩
          case measure => simp [intOf]; omega
      | some q =>
        have HL2 := Lib.hid (fun W => refless_any q.key p.key W (HFO.out q rfl) hfj)
        rw [show prevOk (some q) p = Pl.ls q.key.data.toList p.key.data.toList from rfl] at HNX
        simp only [Option.isSome_some, Option.getD_some] at hS ⊢
        generalize Pl.ls q.key.data.toList p.key.data.toList = r2 at HL2 HNX
        refine wp_region_held_drew (S := fun w' => Below W.heap.size W w') (by kernel_rfl) (Below.drew (Below.refl _ _)) (fun hcur => ?_)
        replace hcur : Below W.heap.size W W.drew := hcur
        generalize W.drew = X0 at hcur ⊢
        refine wpAnyH_take (i := 0) (v := ?_) rfl (by decide +kernel) (by decide +kernel) (by decide +kernel) (fun _ _ _ h => h) (Or.inl ⟨by rfl, ?hy⟩) hcur ?_
        case hy =>
          intro w1 hSw
          replace hSw : Below W.heap.size W w1 := hSw
          have x0 := (hSw.cell (p := ⟨b, off + j * 2, none⟩) HB1.out.1).trans HB1.out.2
          obtain ⟨z0, z1, -, -⟩ := pr_facts ((hS.out.call hSw).has 1 _ _ rfl).1
          go_simp
          (try with_reducible rfl)
        (try simp only [Act.put, List.getElem_toArray, List.getElem_cons_zero, List.getElem_cons_succ, List.setIfInBounds_toArray, List.set_cons_zero, List.set_cons_succ])
        cases all
        · refine wpAnyH_take (i := 1) (v := ?_) rfl (by decide +kernel) (by decide +kernel) (by decide +kernel) (fun _ _ _ h => h) (Or.inl ⟨by rfl, ?hy⟩) hcur ?_
          case hy =>
            intro w1 hSw
            replace hSw : Below W.heap.size W w1 := hSw
            have x0 := (hSw.cell (p := ⟨b, off + j * 2, none⟩) HB1.out.1).trans HB1.out.2
            obtain ⟨z0, z1, -, -⟩ := pr_facts ((hS.out.call hSw).has 1 _ _ rfl).1
            go_simp
            (try with_reducible rfl)
          (try simp only [Act.put, List.getElem_toArray, List.getElem_cons_zero, List.getElem_cons_succ, List.setIfInBounds_toArray, List.set_cons_zero, List.set_cons_succ])
          refine wpAnyH_take (i := 2) (v := ?_) rfl (by decide +kernel) (by decide +kernel) (by decide +kernel) (fun _ _ _ h => h) (Or.inl ⟨by rfl, ?hy⟩) hcur ?_
          case hy =>
            intro w1 hSw
            replace hSw : Below W.heap.size W w1 := hSw
            have x0 := (hSw.cell (p := ⟨b, off + j * 2, none⟩) HB1.out.1).trans HB1.out.2
            obtain ⟨z0, z1, -, -⟩ := pr_facts ((hS.out.call hSw).has 1 _ _ rfl).1
            go_simp
            (try with_reducible rfl)
          (try simp only [Act.put, List.getElem_toArray, List.getElem_cons_zero, List.getElem_cons_succ, List.setIfInBounds_toArray, List.set_cons_zero, List.set_cons_succ])
          refine wpAnyH_take (i := 3) (v := ?_) rfl (by decide +kernel) (by decide +kernel) (by decide +kernel) (fun _ _ _ h => h) (Or.inl ⟨by rfl, ?hy⟩) hcur ?_
          case hy =>
            intro w1 hSw
            replace hSw : Below W.heap.size W w1 := hSw
            have x0 := (hSw.cell (p := ⟨b, off + j * 2, none⟩) HB1.out.1).trans HB1.out.2
            obtain ⟨z0, z1, -, -⟩ := pr_facts ((hS.out.call hSw).has 1 _ _ rfl).1
            go_simp
            (try with_reducible rfl)
          (try simp only [Act.put, List.getElem_toArray, List.getElem_cons_zero, List.getElem_cons_succ, List.setIfInBounds_toArray, List.set_cons_zero, List.set_cons_succ])
          refine wpAnyH_take (i := 4) (v := ?_) rfl (by decide +kernel) (by decide +kernel) (by decide +kernel) (fun _ _ _ h => h) (Or.inl ⟨by rfl, ?hy⟩) hcur ?_
          case hy =>
            intro w1 hSw
            replace hSw : Below W.heap.size W w1 := hSw
            have x0 := (hSw.cell (p := ⟨b, off + j * 2, none⟩) HB1.out.1).trans HB1.out.2
            obtain ⟨z0, z1, -, -⟩ := pr_facts ((hS.out.call hSw).has 1 _ _ rfl).1
            go_simp
            (try with_reducible rfl)
          (try simp only [Act.put, List.getElem_toArray, List.getElem_cons_zero, List.getElem_cons_succ, List.setIfInBounds_toArray, List.set_cons_zero, List.set_cons_succ])
          refine wpAnyH_take (i := 5) (v := ?_) rfl (by decide +kernel) (by decide +kernel) (by decide +kernel) (fun _ _ _ h => h) (Or.inl ⟨by rfl, ?hy⟩) hcur ?_
          case hy =>
            intro w1 hSw
            replace hSw : Below W.heap.size W w1 := hSw
            have x0 := (hSw.cell (p := ⟨b, off + j * 2, none⟩) HB1.out.1).trans HB1.out.2
            obtain ⟨z0, z1, -, -⟩ := pr_facts ((hS.out.call hSw).has 1 _ _ rfl).1
            go_simp
            (try with_reducible rfl)
          (try simp only [Act.put, List.getElem_toArray, List.getElem_cons_zero, List.getElem_cons_succ, List.setIfInBounds_toArray, List.set_cons_zero, List.set_cons_succ])
          refine wpAnyH_take (i := 6) (v := ?_) rfl (by decide +kernel) (by decide +kernel) (by decide +kernel) (fun _ _ _ h => h) (Or.inl ⟨by rfl, ?hy⟩) hcur ?_
          case hy =>
            intro w1 hSw
            replace hSw : Below W.heap.size W w1 := hSw
            have x0 := (hSw.cell (p := ⟨b, off + j * 2, none⟩) HB1.out.1).trans HB1.out.2
            obtain ⟨z0, z1, -, -⟩ := pr_facts ((hS.out.call hSw).has 1 _ _ rfl).1
            go_simp
            (try with_reducible rfl)
          (try simp only [Act.put, List.getElem_toArray, List.getElem_cons_zero, List.getElem_cons_succ, List.setIfInBounds_toArray, List.set_cons_zero, List.set_cons_succ])
          refine wpAnyH_take (i := 7) (v := ?_) rfl (by decide +kernel) (by decide +kernel) (by decide +kernel) (fun _ _ _ h => h) (Or.inl ⟨by rfl, ?hy⟩) hcur ?_
          case hy =>
            intro w1 hSw
            replace hSw : Below W.heap.size W w1 := hSw
            have x0 := (hSw.cell (p := ⟨b, off + j * 2, none⟩) HB1.out.1).trans HB1.out.2
            obtain ⟨z0, z1, -, -⟩ := pr_facts ((hS.out.call hSw).has 1 _ _ rfl).1
            go_simp
            (try with_reducible rfl)
          (try simp only [Act.put, List.getElem_toArray, List.getElem_cons_zero, List.getElem_cons_succ, List.setIfInBounds_toArray, List.set_cons_zero, List.set_cons_succ])
          refine wpAnyH_ready (rs := [8]) (by decide +kernel) (by simp) ?_
          refine AllReadyH.cons rfl (fun K hK => ?_) AllReadyH.nil
          go_simp
          refine (HL1.out _).mono ?_
          rintro e wn ⟨rfl, hbn⟩
          go_wp2_with fail
          refine hK.out _ _ (below_of hcur hbn) (fun _ => ?_)
          clear hK K
          replace hcur := below_of hcur hbn
          clear hbn
          (try simp only [Act.put, List.getElem_toArray, List.getElem_cons_zero, List.getElem_cons_succ, List.setIfInBounds_toArray, List.set_cons_zero, List.set_cons_succ])
          cases r1
          · refine wpAnyH_take (i := 9) (v := ?_) rfl (by decide +kernel) (by decide +kernel) (by decide +kernel) (fun _ _ _ h => h) (Or.inl ⟨by rfl, ?hy⟩) hcur ?_
            case hy =>
              intro w1 hSw
              replace hSw : Below W.heap.size W w1 := hSw
              have x0 := (hSw.cell (p := ⟨b, off + j * 2, none⟩) HB1.out.1).trans HB1.out.2
              obtain ⟨z0, z1, -, -⟩ := pr_facts ((hS.out.call hSw).has 1 _ _ rfl).1
              go_simp
              (try with_reducible rfl)
            (try simp only [Act.put, List.getElem_toArray, List.getElem_cons_zero, List.getElem_cons_succ, List.setIfInBounds_toArray, List.set_cons_zero, List.set_cons_succ])
            refine wpAnyH_take (i := 10) (v := ?_) rfl (by decide +kernel) (by decide +kernel) (by decide +kernel) (fun _ _ _ h => h) (Or.inl ⟨by rfl, ?hy⟩) hcur ?_
            case hy =>
              intro w1 hSw
              replace hSw : Below W.heap.size W w1 := hSw
              have x0 := (hSw.cell (p := ⟨b, off + j * 2, none⟩) HB1.out.1).trans HB1.out.2
              obtain ⟨z0, z1, -, -⟩ := pr_facts ((hS.out.call hSw).has 1 _ _ rfl).1
              go_simp
              (try with_reducible rfl)
            (try simp only [Act.put, List.getElem_toArray, List.getElem_cons_zero, List.getElem_cons_succ, List.setIfInBounds_toArray, List.set_cons_zero, List.set_cons_succ])
            refine wpAnyH_take (i := 11) rfl (by decide +kernel) (by decide +kernel) (by decide +kernel) (fun _ _ _ h => h) (Or.inr ⟨by rfl, rfl⟩) hcur ?_
            (try simp only [Act.put, List.getElem_toArray, List.getElem_cons_zero, List.getElem_cons_succ, List.setIfInBounds_toArray, List.set_cons_zero, List.set_cons_succ])
            refine wpAnyH_take (i := 12) rfl (by decide +kernel) (by decide +kernel) (by decide +kernel) (fun _ _ _ h => h) (Or.inr ⟨by rfl, rfl⟩) hcur ?_
            (try simp only [Act.put, List.getElem_toArray, List.getElem_cons_zero, List.getElem_cons_succ, List.setIfInBounds_toArray, List.set_cons_zero, List.set_cons_succ])
            refine wpAnyH_take (i := 13) rfl (by decide +kernel) (by decide +kernel) (by decide +kernel) (fun _ _ _ h => h) (Or.inr ⟨by rfl, rfl⟩) hcur ?_
            (try simp only [Act.put, List.getElem_toArray, List.getElem_cons_zero, List.getElem_cons_succ, List.setIfInBounds_toArray, List.set_cons_zero, List.set_cons_succ])
            refine wpAnyH_take (i := 14) rfl (by decide +kernel) (by decide +kernel) (by decide +kernel) (fun _ _ _ h => h) (Or.inr ⟨by rfl, rfl⟩) hcur ?_
            (try simp only [Act.put, List.getElem_toArray, List.getElem_cons_zero, List.getElem_cons_succ, List.setIfInBounds_toArray, List.set_cons_zero, List.set_cons_succ])
            refine wpAnyH_take (i := 15) rfl (by decide +kernel) (by decide +kernel) (by decide +kernel) (fun _ _ _ h => h) (Or.inr ⟨by rfl, rfl⟩) hcur ?_
            (try simp only [Act.put, List.getElem_toArray, List.getElem_cons_zero, List.getElem_cons_succ, List.setIfInBounds_toArray, List.set_cons_zero, List.set_cons_succ])
            refine wpAnyH_take (i := 16) rfl (by decide +kernel) (by decide +kernel) (by decide +kernel) (fun _ _ _ h => h) (Or.inr ⟨by rfl, rfl⟩) hcur ?_
            (try simp only [Act.put, List.getElem_toArray, List.getElem_cons_zero, List.getElem_cons_succ, List.setIfInBounds_toArray, List.set_cons_zero, List.set_cons_succ])
            refine wpAnyH_take (i := 17) rfl (by decide +kernel) (by decide +kernel) (by decide +kernel) (fun _ _ _ h => h) (Or.inr ⟨by rfl, rfl⟩) hcur ?_
            (try simp only [Act.put, List.getElem_toArray, List.getElem_cons_zero, List.getElem_cons_succ, List.setIfInBounds_toArray, List.set_cons_zero, List.set_cons_succ])
            refine wpAnyH_take (i := 18) rfl (by decide +kernel) (by decide +kernel) (by decide +kernel) (fun _ _ _ h => h) (Or.inr ⟨by rfl, rfl⟩) hcur ?_
            (try simp only [Act.put, List.getElem_toArray, List.getElem_cons_zero, List.getElem_cons_succ, List.setIfInBounds_toArray, List.set_cons_zero, List.set_cons_succ])
            refine wpAnyH_take (i := 19) rfl (by decide +kernel) (by decide +kernel) (by decide +kernel) (fun _ _ _ h => h) (Or.inr ⟨by rfl, rfl⟩) hcur ?_
            (try simp only [Act.put, List.getElem_toArray, List.getElem_cons_zero, List.getElem_cons_succ, List.setIfInBounds_toArray, List.set_cons_zero, List.set_cons_succ])
            refine wpAnyH_take (i := 20) rfl (by decide +kernel) (by decide +kernel) (by decide +kernel) (fun _ _ _ h => h) (Or.inr ⟨by rfl, rfl⟩) hcur ?_
            (try simp only [Act.put, List.getElem_toArray, List.getElem_cons_zero, List.getElem_cons_succ, List.setIfInBounds_toArray, List.set_cons_zero, List.set_cons_succ])
            refine wpAnyH_take (i := 21) rfl (by decide +kernel) (by decide +kernel) (by decide +kernel) (fun _ _ _ h => h) (Or.inr ⟨by rfl, rfl⟩) hcur ?_
            (try simp only [Act.put, List.getElem_toArray, List.getElem_cons_zero, List.getElem_cons_succ, List.setIfInBounds_toArray, List.set_cons_zero, List.set_cons_succ])
            refine wpAnyH_take (i := 22) rfl (by decide +kernel) (by decide +kernel) (by decide +kernel) (fun _ _ _ h => h) (Or.inr ⟨by rfl, rfl⟩) hcur ?_
            (try simp only [Act.put, List.getElem_toArray, List.getElem_cons_zero, List.getElem_cons_succ, List.setIfInBounds_toArray, List.set_cons_zero, List.set_cons_succ])
            refine wpAnyH_take (i := 23) (v := ?_) rfl (by decide +kernel) (by decide +kernel) (by decide +kernel) (fun _ _ _ h => h) (Or.inl ⟨by rfl, ?hy⟩) hcur ?_
            case hy =>
              intro w1 hSw
              replace hSw : Below W.heap.size W w1 := hSw
              have x0 := (hSw.cell (p := ⟨b, off + j * 2, none⟩) HB1.out.1).trans HB1.out.2
              obtain ⟨z0, z1, -, -⟩ := pr_facts ((hS.out.call hSw).has 1 _ _ rfl).1
              go_simp
              (try with_reducible rfl)
            (try simp only [Act.put, List.getElem_toArray, List.getElem_cons_zero, List.getElem_cons_succ, List.setIfInBounds_toArray, List.set_cons_zero, List.set_cons_succ])
            refine wpAnyH_done (by decide +kernel) ?_ _
            have HZ := Lib.hid (hS.out.call hcur)
            clear hS hcur
            go_wp2_with fail
            go_roundw
            case rel => exact ⟨j + 1, some q, by go_num, rfl, by omega, HNX.out.trans (by rfl), HZ.out⟩
            case measure => simp [intOf]; omega
          · refine wpAnyH_take (i := 9) (v := ?_) rfl (by decide +kernel) (by decide +kernel) (by decide +kernel) (fun _ _ _ h => h) (Or.inl ⟨by rfl, ?hy⟩) hcur ?_
            case hy =>
              intro w1 hSw
              replace hSw : Below W.heap.size W w1 := hSw
              have x0 := (hSw.cell (p := ⟨b, off + j * 2, none⟩) HB1.out.1).trans HB1.out.2
              obtain ⟨z0, z1, -, -⟩ := pr_facts ((hS.out.call hSw).has 1 _ _ rfl).1
              go_simp
              (try with_reducible rfl)
            (try simp only [Act.put, List.getElem_toArray, List.getElem_cons_zero, List.getElem_cons_succ, List.setIfInBounds_toArray, List.set_cons_zero, List.set_cons_succ])
            refine wpAnyH_take (i := 10) (v := ?_) rfl (by decide +kernel) (by decide +kernel) (by decide +kernel) (fun _ _ _ h => h) (Or.inl ⟨by rfl, ?hy⟩) hcur ?_
            case hy =>
              intro w1 hSw
              replace hSw : Below W.heap.size W w1 := hSw
              have x0 := (hSw.cell (p := ⟨b, off + j * 2, none⟩) HB1.out.1).trans HB1.out.2
              obtain ⟨z0, z1, -, -⟩ := pr_facts ((hS.out.call hSw).has 1 _ _ rfl).1
              go_simp
              (try with_reducible rfl)
            (try simp only [Act.put, List.getElem_toArray, List.getElem_cons_zero, List.getElem_cons_succ, List.setIfInBounds_toArray, List.set_cons_zero, List.set_cons_succ])
            refine wpAnyH_take (i := 11) (v := ?_) rfl (by decide +kernel) (by decide +kernel) (by decide +kernel) (fun _ _ _ h => h) (Or.inl ⟨by rfl, ?hy⟩) hcur ?_
            case hy =>
              intro w1 hSw
              replace hSw : Below W.heap.size W w1 := hSw
              have x0 := (hSw.cell (p := ⟨b, off + j * 2, none⟩) HB1.out.1).trans HB1.out.2
              obtain ⟨z0, z1, -, -⟩ := pr_facts ((hS.out.call hSw).has 1 _ _ rfl).1
              go_simp
              (try with_reducible rfl)
            (try simp only [Act.put, List.getElem_toArray, List.getElem_cons_zero, List.getElem_cons_succ, List.setIfInBounds_toArray, List.set_cons_zero, List.set_cons_succ])
            refine wpAnyH_take (i := 12) (v := ?_) rfl (by decide +kernel) (by decide +kernel) (by decide +kernel) (fun _ _ _ h => h) (Or.inl ⟨by rfl, ?hy⟩) hcur ?_
            case hy =>
              intro w1 hSw
              replace hSw : Below W.heap.size W w1 := hSw
              have x0 := (hSw.cell (p := ⟨b, off + j * 2, none⟩) HB1.out.1).trans HB1.out.2
              obtain ⟨z0, z1, -, -⟩ := pr_facts ((hS.out.call hSw).has 1 _ _ rfl).1
              go_simp
              (try with_reducible rfl)
            (try simp only [Act.put, List.getElem_toArray, List.getElem_cons_zero, List.getElem_cons_succ, List.setIfInBounds_toArray, List.set_cons_zero, List.set_cons_succ])
            refine wpAnyH_take (i := 13) (v := ?_) rfl (by decide +kernel) (by decide +kernel) (by decide +kernel) (fun _ _ _ h => h) (Or.inl ⟨by rfl, ?hy⟩) hcur ?_
            case hy =>
              intro w1 hSw
              replace hSw : Below W.heap.size W w1 := hSw
              have x0 := (hSw.cell (p := ⟨b, off + j * 2, none⟩) HB1.out.1).trans HB1.out.2
              obtain ⟨z0, z1, -, -⟩ := pr_facts ((hS.out.call hSw).has 1 _ _ rfl).1
              go_simp
              (try with_reducible rfl)
            (try simp only [Act.put, List.getElem_toArray, List.getElem_cons_zero, List.getElem_cons_succ, List.setIfInBounds_toArray, List.set_cons_zero, List.set_cons_succ])
            refine wpAnyH_take (i := 14) (v := ?_) rfl (by decide +kernel) (by decide +kernel) (by decide +kernel) (fun _ _ _ h => h) (Or.inl ⟨by rfl, ?hy⟩) hcur ?_
            case hy =>
              intro w1 hSw
              replace hSw : Below W.heap.size W w1 := hSw
              have x0 := (hSw.cell (p := ⟨b, off + j * 2, none⟩) HB1.out.1).trans HB1.out.2
              obtain ⟨z0, z1, -, -⟩ := pr_facts ((hS.out.call hSw).has 1 _ _ rfl).1
              go_simp
              (try with_reducible rfl)
            (try simp only [Act.put, List.getElem_toArray, List.getElem_cons_zero, List.getElem_cons_succ, List.setIfInBounds_toArray, List.set_cons_zero, List.set_cons_succ])
            refine wpAnyH_take (i := 15) (v := ?_) rfl (by decide +kernel) (by decide +kernel) (by decide +kernel) (fun _ _ _ h => h) (Or.inl ⟨by rfl, ?hy⟩) hcur ?_
            case hy =>
              intro w1 hSw
              replace hSw : Below W.heap.size W w1 := hSw
              have x0 := (hSw.cell (p := ⟨b, off + j * 2, none⟩) HB1.out.1).trans HB1.out.2
              obtain ⟨z0, z1, -, -⟩ := pr_facts ((hS.out.call hSw).has 1 _ _ rfl).1
              go_simp
              (try with_reducible rfl)
            (try simp only [Act.put, List.getElem_toArray, List.getElem_cons_zero, List.getElem_cons_succ, List.setIfInBounds_toArray, List.set_cons_zero, List.set_cons_succ])
            refine wpAnyH_take (i := 16) (v := ?_) rfl (by decide +kernel) (by decide +kernel) (by decide +kernel) (fun _ _ _ h => h) (Or.inl ⟨by rfl, ?hy⟩) hcur ?_
            case hy =>
              intro w1 hSw
              replace hSw : Below W.heap.size W w1 := hSw
              have x0 := (hSw.cell (p := ⟨b, off + j * 2, none⟩) HB1.out.1).trans HB1.out.2
              obtain ⟨z0, z1, -, -⟩ := pr_facts ((hS.out.call hSw).has 1 _ _ rfl).1
              go_simp
              (try with_reducible rfl)
            (try simp only [Act.put, List.getElem_toArray, List.getElem_cons_zero, List.getElem_cons_succ, List.setIfInBounds_toArray, List.set_cons_zero, List.set_cons_succ])
            refine wpAnyH_take (i := 17) (v := ?_) rfl (by decide +kernel) (by decide +kernel) (by decide +kernel) (fun _ _ _ h => h) (Or.inl ⟨by rfl, ?hy⟩) hcur ?_
            case hy =>
              intro w1 hSw
              replace hSw : Below W.heap.size W w1 := hSw
              have x0 := (hSw.cell (p := ⟨b, off + j * 2, none⟩) HB1.out.1).trans HB1.out.2
              obtain ⟨z0, z1, -, -⟩ := pr_facts ((hS.out.call hSw).has 1 _ _ rfl).1
              go_simp
              (try with_reducible rfl)
            (try simp only [Act.put, List.getElem_toArray, List.getElem_cons_zero, List.getElem_cons_succ, List.setIfInBounds_toArray, List.set_cons_zero, List.set_cons_succ])
            refine wpAnyH_take (i := 18) (v := ?_) rfl (by decide +kernel) (by decide +kernel) (by decide +kernel) (fun _ _ _ h => h) (Or.inl ⟨by rfl, ?hy⟩) hcur ?_
            case hy =>
              intro w1 hSw
              replace hSw : Below W.heap.size W w1 := hSw
              have x0 := (hSw.cell (p := ⟨b, off + j * 2, none⟩) HB1.out.1).trans HB1.out.2
              obtain ⟨z0, z1, -, -⟩ := pr_facts ((hS.out.call hSw).has 1 _ _ rfl).1
              go_simp
              (try with_reducible rfl)
            (try simp only [Act.put, List.getElem_toArray, List.getElem_cons_zero, List.getElem_cons_succ, List.setIfInBounds_toArray, List.set_cons_zero, List.set_cons_succ])
            refine wpAnyH_take (i := 19) (v := ?_) rfl (by decide +kernel) (by decide +kernel) (by decide +kernel) (fun _ _ _ h => h) (Or.inl ⟨by rfl, ?hy⟩) hcur ?_
            case hy =>
              intro w1 hSw
              replace hSw : Below W.heap.size W w1 := hSw
              have x0 := (hSw.cell (p := ⟨b, off + j * 2, none⟩) HB1.out.1).trans HB1.out.2
              obtain ⟨z0, z1, -, -⟩ := pr_facts ((hS.out.call hSw).has 1 _ _ rfl).1
              go_simp
              (try with_reducible rfl)
            (try simp only [Act.put, List.getElem_toArray, List.getElem_cons_zero, List.getElem_cons_succ, List.setIfInBounds_toArray, List.set_cons_zero, List.set_cons_succ])
            refine wpAnyH_take (i := 20) (v := ?_) rfl (by decide +kernel) (by decide +kernel) (by decide +kernel) (fun _ _ _ h => h) (Or.inl ⟨by rfl, ?hy⟩) hcur ?_
            case hy =>
              intro w1 hSw
              replace hSw : Below W.heap.size W w1 := hSw
              have x0 := (hSw.cell (p := ⟨b, off + j * 2, none⟩) HB1.out.1).trans HB1.out.2
              obtain ⟨z0, z1, -, -⟩ := pr_facts ((hS.out.call hSw).has 1 _ _ rfl).1
              go_simp
              (try with_reducible rfl)
            (try simp only [Act.put, List.getElem_toArray, List.getElem_cons_zero, List.getElem_cons_succ, List.setIfInBounds_toArray, List.set_cons_zero, List.set_cons_succ])
            refine wpAnyH_ready (rs := [21]) (by decide +kernel) (by simp) ?_
            refine AllReadyH.cons rfl (fun K hK => ?_) AllReadyH.nil
            go_simp
            refine (HL2.out _).mono ?_
            rintro e wn ⟨rfl, hbn⟩
            go_wp2_with fail
            refine hK.out _ _ (below_of hcur hbn) (fun _ => ?_)
            clear hK K
            replace hcur := below_of hcur hbn
            clear hbn
            (try simp only [Act.put, List.getElem_toArray, List.getElem_cons_zero, List.getElem_cons_succ, List.setIfInBounds_toArray, List.set_cons_zero, List.set_cons_succ])
            cases r2
            · refine wpAnyH_take (i := 22) (v := ?_) rfl (by decide +kernel) (by decide +kernel) (by decide +kernel) (fun _ _ _ h => h) (Or.inl ⟨by rfl, ?hy⟩) hcur ?_
              case hy =>
                intro w1 hSw
                replace hSw : Below W.heap.size W w1 := hSw
                have x0 := (hSw.cell (p := ⟨b, off + j * 2, none⟩) HB1.out.1).trans HB1.out.2
                obtain ⟨z0, z1, -, -⟩ := pr_facts ((hS.out.call hSw).has 1 _ _ rfl).1
                go_simp
                (try with_reducible rfl)
              (try simp only [Act.put, List.getElem_toArray, List.getElem_cons_zero, List.getElem_cons_succ, List.setIfInBounds_toArray, List.set_cons_zero, List.set_cons_succ])
              refine wpAnyH_take (i := 23) (v := ?_) rfl (by decide +kernel) (by decide +kernel) (by decide +kernel) (fun _ _ _ h => h) (Or.inl ⟨by rfl, ?hy⟩) hcur ?_
              case hy =>
                intro w1 hSw
                replace hSw : Below W.heap.size W w1 := hSw
                have x0 := (hSw.cell (p := ⟨b, off + j * 2, none⟩) HB1.out.1).trans HB1.out.2
                obtain ⟨z0, z1, -, -⟩ := pr_facts ((hS.out.call hSw).has 1 _ _ rfl).1
                go_simp
                (try with_reducible rfl)
              (try simp only [Act.put, List.getElem_toArray, List.getElem_cons_zero, List.getElem_cons_succ, List.setIfInBounds_toArray, List.set_cons_zero, List.set_cons_succ])
              refine wpAnyH_done (by decide +kernel) ?_ _
              have HZ := Lib.hid (hS.out.call hcur)
              clear hS hcur
              go_wp2_with fail
              go_roundw
              case rel => exact ⟨j + 1, some q, by go_num, rfl, by omega, HNX.out.trans (by rfl), HZ.out⟩
              case measure => simp [intOf]; omega
            · refine wpAnyH_take (i := 22) (v := ?_) rfl (by decide +kernel) (by decide +kernel) (by decide +kernel) (fun _ _ _ h => h) (Or.inl ⟨by rfl, ?hy⟩) hcur ?_
              case hy =>
                intro w1 hSw
                replace hSw : Below W.heap.size W w1 := hSw
                have x0 := (hSw.cell (p := ⟨b, off + j * 2, none⟩) HB1.out.1).trans HB1.out.2
                obtain ⟨z0, z1, -, -⟩ := pr_facts ((hS.out.call hSw).has 1 _ _ rfl).1
                go_simp
                (try with_reducible rfl)
              (try simp only [Act.put, List.getElem_toArray, List.getElem_cons_zero, List.getElem_cons_succ, List.setIfInBounds_toArray, List.set_cons_zero, List.set_cons_succ])
              refine wpAnyH_take (i := 23) (v := ?_) rfl (by decide +kernel) (by decide +kernel) (by decide +kernel) (fun _ _ _ h => h) (Or.inl ⟨by rfl, ?hy⟩) hcur ?_
              case hy =>
                intro w1 hSw
                replace hSw : Below W.heap.size W w1 := hSw
                have x0 := (hSw.cell (p := ⟨b, off + j * 2, none⟩) HB1.out.1).trans HB1.out.2
                obtain ⟨z0, z1, -, -⟩ := pr_facts ((hS.out.call hSw).has 1 _ _ rfl).1
                go_simp
                (try with_reducible rfl)
              (try simp only [Act.put, List.getElem_toArray, List.getElem_cons_zero, List.getElem_cons_succ, List.setIfInBounds_toArray, List.set_cons_zero, List.set_cons_succ])
              refine wpAnyH_done (by decide +kernel) ?_ _
              replace hS := Lib.hid (hS.out.call hcur)
              have x0 := (hcur.cell (p := ⟨b, off + j * 2, none⟩) HB1.out.1).trans HB1.out.2
              have x1 := (hcur.cell (p := ⟨b, off + j * 2 + 1, none⟩) HB1.out.1).trans HB2.out
              obtain ⟨z0, z1, f0, f1⟩ := pr_facts (hS.out.has 1 _ _ rfl).1
              have HZ := Lib.hid ((hS.out.setc 1 rfl 0 (.string p.key)).setc 1 rfl 1 (.int .u64 p.val))
              simp only [List.set_cons_zero, List.set_cons_succ] at HZ
              clear hS hcur
              go_wp2_with fail
              go_roundw
              case rel => exact ⟨j + 1, some p, by go_num, rfl, by omega, HNX.out.trans (by rfl), HZ.out⟩
              case measure => simp [intOf]; omega
        · refine wpAnyH_take (i := 1) (v := ?_) rfl (by decide +kernel) (by decide +kernel) (by decide +kernel) (fun _ _ _ h => h) (Or.inl ⟨by rfl, ?hy⟩) hcur ?_
          case hy =>
            intro w1 hSw
            replace hSw : Below W.heap.size W w1 := hSw
            have x0 := (hSw.cell (p := ⟨b, off + j * 2, none⟩) HB1.out.1).trans HB1.out.2
            obtain ⟨z0, z1, -, -⟩ := pr_facts ((hS.out.call hSw).has 1 _ _ rfl).1
            go_simp
            (try with_reducible rfl)
          (try simp only [Act.put, List.getElem_toArray, List.getElem_cons_zero, List.getElem_cons_succ, List.setIfInBounds_toArray, List.set_cons_zero, List.set_cons_succ])
          refine wpAnyH_take (i := 2) rfl (by decide +kernel) (by decide +kernel) (by decide +kernel) (fun _ _ _ h => h) (Or.inr ⟨by rfl, rfl⟩) hcur ?_
          (try simp only [Act.put, List.getElem_toArray, List.getElem_cons_zero, List.getElem_cons_succ, List.setIfInBounds_toArray, List.set_cons_zero, List.set_cons_succ])
          refine wpAnyH_take (i := 3) rfl (by decide +kernel) (by decide +kernel) (by decide +kernel) (fun _ _ _ h => h) (Or.inr ⟨by rfl, rfl⟩) hcur ?_
          (try simp only [Act.put, List.getElem_toArray, List.getElem_cons_zero, List.getElem_cons_succ, List.setIfInBounds_toArray, List.set_cons_zero, List.set_cons_succ])
          refine wpAnyH_take (i := 4) rfl (by decide +kernel) (by decide +kernel) (by decide +kernel) (fun _ _ _ h => h) (Or.inr ⟨by rfl, rfl⟩) hcur ?_
          (try simp only [Act.put, List.getElem_toArray, List.getElem_cons_zero, List.getElem_cons_succ, List.setIfInBounds_toArray, List.set_cons_zero, List.set_cons_succ])
          refine wpAnyH_take (i := 5) rfl (by decide +kernel) (by decide +kernel) (by decide +kernel) (fun _ _ _ h => h) (Or.inr ⟨by rfl, rfl⟩) hcur ?_
          (try simp only [Act.put, List.getElem_toArray, List.getElem_cons_zero, List.getElem_cons_succ, List.setIfInBounds_toArray, List.set_cons_zero, List.set_cons_succ])
          refine wpAnyH_take (i := 6) rfl (by decide +kernel) (by decide +kernel) (by decide +kernel) (fun _ _ _ h => h) (Or.inr ⟨by rfl, rfl⟩) hcur ?_
          (try simp only [Act.put, List.getElem_toArray, List.getElem_cons_zero, List.getElem_cons_succ, List.setIfInBounds_toArray, List.set_cons_zero, List.set_cons_succ])
          refine wpAnyH_take (i := 7) rfl (by decide +kernel) (by decide +kernel) (by decide +kernel) (fun _ _ _ h => h) (Or.inr ⟨by rfl, rfl⟩) hcur ?_
          (try simp only [Act.put, List.getElem_toArray, List.getElem_cons_zero, List.getElem_cons_succ, List.setIfInBounds_toArray, List.set_cons_zero, List.set_cons_succ])
          refine wpAnyH_take (i := 8) rfl (by decide +kernel) (by decide +kernel) (by decide +kernel) (fun _ _ _ h => h) (Or.inr ⟨by rfl, rfl⟩) hcur ?_
          (try simp only [Act.put, List.getElem_toArray, List.getElem_cons_zero, List.getElem_cons_succ, List.setIfInBounds_toArray, List.set_cons_zero, List.set_cons_succ])
          refine wpAnyH_take (i := 9) (v := ?_) rfl (by decide +kernel) (by decide +kernel) (by decide +kernel) (fun _ _ _ h => h) (Or.inl ⟨by rfl, ?hy⟩) hcur ?_
          case hy =>
            intro w1 hSw
            replace hSw : Below W.heap.size W w1 := hSw
            have x0 := (hSw.cell (p := ⟨b, off + j * 2, none⟩) HB1.out.1).trans HB1.out.2
            obtain ⟨z0, z1, -, -⟩ := pr_facts ((hS.out.call hSw).has 1 _ _ rfl).1
            go_simp
            (try with_reducible rfl)
          (try simp only [Act.put, List.getElem_toArray, List.getElem_cons_zero, List.getElem_cons_succ, List.setIfInBounds_toArray, List.set_cons_zero, List.set_cons_succ])
          refine wpAnyH_take (i := 10) (v := ?_) rfl (by decide +kernel) (by decide +kernel) (by decide +kernel) (fun _ _ _ h => h) (Or.inl ⟨by rfl, ?hy⟩) hcur ?_
          case hy =>
            intro w1 hSw
            replace hSw : Below W.heap.size W w1 := hSw
            have x0 := (hSw.cell (p := ⟨b, off + j * 2, none⟩) HB1.out.1).trans HB1.out.2
            obtain ⟨z0, z1, -, -⟩ := pr_facts ((hS.out.call hSw).has 1 _ _ rfl).1
            go_simp
            (try with_reducible rfl)
          (try simp only [Act.put, List.getElem_toArray, List.getElem_cons_zero, List.getElem_cons_succ, List.setIfInBounds_toArray, List.set_cons_zero, List.set_cons_succ])
          refine wpAnyH_take (i := 11) (v := ?_) rfl (by decide +kernel) (by decide +kernel) (by decide +kernel) (fun _ _ _ h => h) (Or.inl ⟨by rfl, ?hy⟩) hcur ?_
          case hy =>
            intro w1 hSw
            replace hSw : Below W.heap.size W w1 := hSw
            have x0 := (hSw.cell (p := ⟨b, off + j * 2, none⟩) HB1.out.1).trans HB1.out.2
            obtain ⟨z0, z1, -, -⟩ := pr_facts ((hS.out.call hSw).has 1 _ _ rfl).1
            go_simp
            (try with_reducible rfl)
          (try simp only [Act.put, List.getElem_toArray, List.getElem_cons_zero, List.getElem_cons_succ, List.setIfInBounds_toArray, List.set_cons_zero, List.set_cons_succ])
          refine wpAnyH_take (i := 12) (v := ?_) rfl (by decide +kernel) (by decide +kernel) (by decide +kernel) (fun _ _ _ h => h) (Or.inl ⟨by rfl, ?hy⟩) hcur ?_
          case hy =>
            intro w1 hSw
            replace hSw : Below W.heap.size W w1 := hSw
            have x0 := (hSw.cell (p := ⟨b, off + j * 2, none⟩) HB1.out.1).trans HB1.out.2
            obtain ⟨z0, z1, -, -⟩ := pr_facts ((hS.out.call hSw).has 1 _ _ rfl).1
            go_simp
            (try with_reducible rfl)
          (try simp only [Act.put, List.getElem_toArray, List.getElem_cons_zero, List.getElem_cons_succ, List.setIfInBounds_toArray, List.set_cons_zero, List.set_cons_succ])
          refine wpAnyH_take (i := 13) (v := ?_) rfl (by decide +kernel) (by decide +kernel) (by decide +kernel) (fun _ _ _ h => h) (Or.inl ⟨by rfl, ?hy⟩) hcur ?_
          case hy =>
            intro w1 hSw
            replace hSw : Below W.heap.size W w1 := hSw
            have x0 := (hSw.cell (p := ⟨b, off + j * 2, none⟩) HB1.out.1).trans HB1.out.2
            obtain ⟨z0, z1, -, -⟩ := pr_facts ((hS.out.call hSw).has 1 _ _ rfl).1
            go_simp
            (try with_reducible rfl)
          (try simp only [Act.put, List.getElem_toArray, List.getElem_cons_zero, List.getElem_cons_succ, List.setIfInBounds_toArray, List.set_cons_zero, List.set_cons_succ])
          refine wpAnyH_take (i := 14) (v := ?_) rfl (by decide +kernel) (by decide +kernel) (by decide +kernel) (fun _ _ _ h => h) (Or.inl ⟨by rfl, ?hy⟩) hcur ?_
          case hy =>
            intro w1 hSw
            replace hSw : Below W.heap.size W w1 := hSw
            have x0 := (hSw.cell (p := ⟨b, off + j * 2, none⟩) HB1.out.1).trans HB1.out.2
            obtain ⟨z0, z1, -, -⟩ := pr_facts ((hS.out.call hSw).has 1 _ _ rfl).1
            go_simp
            (try with_reducible rfl)
          (try simp only [Act.put, List.getElem_toArray, List.getElem_cons_zero, List.getElem_cons_succ, List.setIfInBounds_toArray, List.set_cons_zero, List.set_cons_succ])
          refine wpAnyH_take (i := 15) (v := ?_) rfl (by decide +kernel) (by decide +kernel) (by decide +kernel) (fun _ _ _ h => h) (Or.inl ⟨by rfl, ?hy⟩) hcur ?_
          case hy =>
            intro w1 hSw
            replace hSw : Below W.heap.size W w1 := hSw
            have x0 := (hSw.cell (p := ⟨b, off + j * 2, none⟩) HB1.out.1).trans HB1.out.2
            obtain ⟨z0, z1, -, -⟩ := pr_facts ((hS.out.call hSw).has 1 _ _ rfl).1
            go_simp
            (try with_reducible rfl)
          (try simp only [Act.put, List.getElem_toArray, List.getElem_cons_zero, List.getElem_cons_succ, List.setIfInBounds_toArray, List.set_cons_zero, List.set_cons_succ])
          refine wpAnyH_take (i := 16) (v := ?_) rfl (by decide +kernel) (by decide +kernel) (by decide +kernel) (fun _ _ _ h => h) (Or.inl ⟨by rfl, ?hy⟩) hcur ?_
          case hy =>
            intro w1 hSw
            replace hSw : Below W.heap.size W w1 := hSw
            have x0 := (hSw.cell (p := ⟨b, off + j * 2, none⟩) HB1.out.1).trans HB1.out.2
            obtain ⟨z0, z1, -, -⟩ := pr_facts ((hS.out.call hSw).has 1 _ _ rfl).1
            go_simp
            (try with_reducible rfl)
          (try simp only [Act.put, List.getElem_toArray, List.getElem_cons_zero, List.getElem_cons_succ, List.setIfInBounds_toArray, List.set_cons_zero, List.set_cons_succ])
          refine wpAnyH_take (i := 17) (v := ?_) rfl (by decide +kernel) (by decide +kernel) (by decide +kernel) (fun _ _ _ h => h) (Or.inl ⟨by rfl, ?hy⟩) hcur ?_
          case hy =>
            intro w1 hSw
            replace hSw : Below W.heap.size W w1 := hSw
            have x0 := (hSw.cell (p := ⟨b, off + j * 2, none⟩) HB1.out.1).trans HB1.out.2
            obtain ⟨z0, z1, -, -⟩ := pr_facts ((hS.out.call hSw).has 1 _ _ rfl).1
            go_simp
            (try with_reducible rfl)
          (try simp only [Act.put, List.getElem_toArray, List.getElem_cons_zero, List.getElem_cons_succ, List.setIfInBounds_toArray, List.set_cons_zero, List.set_cons_succ])
          refine wpAnyH_take (i := 18) (v := ?_) rfl (by decide +kernel) (by decide +kernel) (by decide +kernel) (fun _ _ _ h => h) (Or.inl ⟨by rfl, ?hy⟩) hcur ?_
          case hy =>
            intro w1 hSw
            replace hSw : Below W.heap.size W w1 := hSw
            have x0 := (hSw.cell (p := ⟨b, off + j * 2, none⟩) HB1.out.1).trans HB1.out.2
            obtain ⟨z0, z1, -, -⟩ := pr_facts ((hS.out.call hSw).has 1 _ _ rfl).1
            go_simp
            (try with_reducible rfl)
          (try simp only [Act.put, List.getElem_toArray, List.getElem_cons_zero, List.getElem_cons_succ, List.setIfInBounds_toArray, List.set_cons_zero, List.set_cons_succ])
          refine wpAnyH_take (i := 19) (v := ?_) rfl (by decide +kernel) (by decide +kernel) (by decide +kernel) (fun _ _ _ h => h) (Or.inl ⟨by rfl, ?hy⟩) hcur ?_
          case hy =>
            intro w1 hSw
            replace hSw : Below W.heap.size W w1 := hSw
            have x0 := (hSw.cell (p := ⟨b, off + j * 2, none⟩) HB1.out.1).trans HB1.out.2
            obtain ⟨z0, z1, -, -⟩ := pr_facts ((hS.out.call hSw).has 1 _ _ rfl).1
            go_simp
            (try with_reducible rfl)
          (try simp only [Act.put, List.getElem_toArray, List.getElem_cons_zero, List.getElem_cons_succ, List.setIfInBounds_toArray, List.set_cons_zero, List.set_cons_succ])
          refine wpAnyH_take (i := 20) (v := ?_) rfl (by decide +kernel) (by decide +kernel) (by decide +kernel) (fun _ _ _ h => h) (Or.inl ⟨by rfl, ?hy⟩) hcur ?_
          case hy =>
            intro w1 hSw
            replace hSw : Below W.heap.size W w1 := hSw
            have x0 := (hSw.cell (p := ⟨b, off + j * 2, none⟩) HB1.out.1).trans HB1.out.2
            obtain ⟨z0, z1, -, -⟩ := pr_facts ((hS.out.call hSw).has 1 _ _ rfl).1
            go_simp
            (try with_reducible rfl)
          (try simp only [Act.put, List.getElem_toArray, List.getElem_cons_zero, List.getElem_cons_succ, List.setIfInBounds_toArray, List.set_cons_zero, List.set_cons_succ])
          refine wpAnyH_ready (rs := [21]) (by decide +kernel) (by simp) ?_
          refine AllReadyH.cons rfl (fun K hK => ?_) AllReadyH.nil
          go_simp
          refine (HL2.out _).mono ?_
          rintro e wn ⟨rfl, hbn⟩
          go_wp2_with fail
          refine hK.out _ _ (below_of hcur hbn) (fun _ => ?_)
          clear hK K
          replace hcur := below_of hcur hbn
          clear hbn
          (try simp only [Act.put, List.getElem_toArray, List.getElem_cons_zero, List.getElem_cons_succ, List.setIfInBounds_toArray, List.set_cons_zero, List.set_cons_succ])
          cases r2
          · refine wpAnyH_take (i := 22) (v := ?_) rfl (by decide +kernel) (by decide +kernel) (by decide +kernel) (fun _ _ _ h => h) (Or.inl ⟨by rfl, ?hy⟩) hcur ?_
            case hy =>
              intro w1 hSw
              replace hSw : Below W.heap.size W w1 := hSw
              have x0 := (hSw.cell (p := ⟨b, off + j * 2, none⟩) HB1.out.1).trans HB1.out.2
              obtain ⟨z0, z1, -, -⟩ := pr_facts ((hS.out.call hSw).has 1 _ _ rfl).1
              go_simp
              (try with_reducible rfl)
            (try simp only [Act.put, List.getElem_toArray, List.getElem_cons_zero, List.getElem_cons_succ, List.setIfInBounds_toArray, List.set_cons_zero, List.set_cons_succ])
            refine wpAnyH_take (i := 23) (v := ?_) rfl (by decide +kernel) (by decide +kernel) (by decide +kernel) (fun _ _ _ h => h) (Or.inl ⟨by rfl, ?hy⟩) hcur ?_
            case hy =>
              intro w1 hSw
              replace hSw : Below W.heap.size W w1 := hSw
              have x0 := (hSw.cell (p := ⟨b, off + j * 2, none⟩) HB1.out.1).trans HB1.out.2
              obtain ⟨z0, z1, -, -⟩ := pr_facts ((hS.out.call hSw).has 1 _ _ rfl).1
              go_simp
              (try with_reducible rfl)
            (try simp only [Act.put, List.getElem_toArray, List.getElem_cons_zero, List.getElem_cons_succ, List.setIfInBounds_toArray, List.set_cons_zero, List.set_cons_succ])
            refine wpAnyH_done (by decide +kernel) ?_ _
            have HZ := Lib.hid (hS.out.call hcur)
            clear hS hcur
            go_wp2_with fail
            go_roundw
            case rel => exact ⟨j + 1, some q, by go_num, rfl, by omega, HNX.out.trans (by rfl), HZ.out⟩
            case measure => simp [intOf]; omega
          · refine wpAnyH_take (i := 22) (v := ?_) rfl (by decide +kernel) (by decide +kernel) (by decide +kernel) (fun _ _ _ h => h) (Or.inl ⟨by rfl, ?hy⟩) hcur ?_
            case hy =>
              intro w1 hSw
              replace hSw : Below W.heap.size W w1 := hSw
              have x0 := (hSw.cell (p := ⟨b, off + j * 2, none⟩) HB1.out.1).trans HB1.out.2
              obtain ⟨z0, z1, -, -⟩ := pr_facts ((hS.out.call hSw).has 1 _ _ rfl).1
              go_simp
              (try with_reducible rfl)
            (try simp only [Act.put, List.getElem_toArray, List.getElem_cons_zero, List.getElem_cons_succ, List.setIfInBounds_toArray, List.set_cons_zero, List.set_cons_succ])
            refine wpAnyH_take (i := 23) (v := ?_) rfl (by decide +kernel) (by decide +kernel) (by decide +kernel) (fun _ _ _ h => h) (Or.inl ⟨by rfl, ?hy⟩) hcur ?_
            case hy =>
              intro w1 hSw
              replace hSw : Below W.heap.size W w1 := hSw
              have x0 := (hSw.cell (p := ⟨b, off + j * 2, none⟩) HB1.out.1).trans HB1.out.2
              obtain ⟨z0, z1, -, -⟩ := pr_facts ((hS.out.call hSw).has 1 _ _ rfl).1
              go_simp
              (try with_reducible rfl)
            (try simp only [Act.put, List.getElem_toArray, List.getElem_cons_zero, List.getElem_cons_succ, List.setIfInBounds_toArray, List.set_cons_zero, List.set_cons_succ])
            refine wpAnyH_done (by decide +kernel) ?_ _
            replace hS := Lib.hid (hS.out.call hcur)
            have x0 := (hcur.cell (p := ⟨b, off + j * 2, none⟩) HB1.out.1).trans HB1.out.2
            have x1 := (hcur.cell (p := ⟨b, off + j * 2 + 1, none⟩) HB1.out.1).trans HB2.out
            obtain ⟨z0, z1, f0, f1⟩ := pr_facts (hS.out.has 1 _ _ rfl).1
            have HZ := Lib.hid ((hS.out.setc 1 rfl 0 (.string p.key)).setc 1 rfl 1 (.int .u64 p.val))
            simp only [List.set_cons_zero, List.set_cons_succ] at HZ
            clear hS hcur
            go_wp2_with fail
            go_roundw
            case rel => exact ⟨j + 1, some p, by go_num, rfl, by omega, HNX.out.trans (by rfl), HZ.out⟩
            case measure => simp [intOf]; omega
    · obtain rfl : j = ps.length := by have := H.out.1; omega
      have HF := Lib.hid H.out.2.1
      rw [List.take_length] at HF
      clear H
      obtain ⟨z0, z1, -, -⟩ := pr_facts (hS.out.has 1 _ _ rfl).1
      obtain ⟨y0, y1, q0, q1⟩ := pr_facts (hS.out.has 0 _ _ rfl).1
      have HZ := Lib.hid ((hS.out.setc 0 rfl 0 (.string (o.getD Pl.zeroP).key)).setc 0 rfl 1 (.int .u64 (o.getD Pl.zeroP).val)).below
      have HE := Lib.hid (show Ending.returned (Value.tuple #[.agg #[.string (o.getD Pl.zeroP).key, .int .u64 (o.getD Pl.zeroP).val], .bool o.isSome]) = .returned (.tuple #[.agg (prCells ((Pl.prevM ps k.data.toList all).getD Pl.zeroP)), .bool (Pl.prevM ps k.data.toList all).isSome]) from by rw [HF.out]; rfl)
      clear hS HF
      generalize o.getD Pl.zeroP = p at z0 z1 HZ HE ⊢
      go_wp2_with fail
      exact bodyPost_ret (v := .tuple #[.agg #[.string p.key, .int .u64 p.val], .bool o.isSome]) (by simp [results, Try.results44, go_sem, *]) rfl ⟨HE.out, HZ.out⟩

end Go.Proofs.Ytcoiadncennhpaa
