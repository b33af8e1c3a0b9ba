/- The example of chapter 6. -/
import Derived.Test.YtggjlnjpokdfpaaPMap4
namespace Go.Proofs.Ytggjlnjpokdfpaa
open Go.RowKit

theorem ret_as {P : Program} {f : FuncId} {args : Array Value} {w : World} {v v' : Value} (h : Calls P f args w (Ret v w)) (e : v = v') : Calls P f args w (Ret v' w) := e ▸ h
theorem prs_as {P : Program} {f : FuncId} {args : Array Value} {w : World} {l l' : List PairD} (h : Calls P f args w (PrsRet l w)) (e : l = l') : Calls P f args w (PrsRet l' w) := e ▸ h
def txA : ByteArray := ⟨#[97]⟩
def txB : ByteArray := ⟨#[98]⟩
def txZ : ByteArray := ⟨#[122]⟩
def ps06 : List PairD := [⟨txB, 2⟩, ⟨txA, 1⟩]
theorem ps06_map : nMap ps06 ([], []) = ([txA, txB], [1, 2]) := by decide +kernel
theorem ps06_next : pairV (atO (Pl.zipP [txA, txB] [1, 2]) (nxI [txA, txB] txA)) = .tuple #[.agg #[.string ⟨#[98]⟩, .int .u64 2], .bool true] := by
  have e : atO (Pl.zipP [txA, txB] [1, 2]) (nxI [txA, txB] txA) = some ⟨txB, 2⟩ := by decide +kernel
  rw [e]; rfl
theorem ps06_prev : pairV (atO (Pl.zipP [txA, txB] [1, 2]) ((Pl.findAt [txA, txB] txA.data.toList : Int) - 1)) = .tuple #[.agg #[.string ⟨#[]⟩, .int .u64 0], .bool false] := by
  have e : atO (Pl.zipP [txA, txB] [1, 2]) ((Pl.findAt [txA, txB] txA.data.toList : Int) - 1) = none := by decide +kernel
  rw [e]; rfl
theorem ps06_scan : scanP (Pl.zipP [txA, txB] [1, 2]) (Pl.findAt [txA, txB] txA.data.toList) txZ.data.toList 1 = [⟨txA, 1⟩] := by decide +kernel
theorem ps06_fit : FitP ps06 := by
  intro p hp
  unfold ps06 at hp
  simp only [List.mem_cons, List.not_mem_nil, or_false] at hp
  rcases hp with rfl | rfl <;> decide
theorem prs_new (w : World) (ps : List PairD) : Prs (w.alloc (.cells (prRow ps).toArray 59)) (some ⟨w.heap.size, 0, none⟩) ps.length ps := by
  refine ⟨rfl, fun h0 => ⟨_, 0, rfl, by simp, fun j hj k v hk => ?_⟩⟩
  rw [Nat.zero_add]
  refine new_cell w _ 59 _ v ?_
  have := prRow_at ps j hj k v hk
  simpa using this

set_option maxRecDepth 100000 in
set_option maxHeartbeats 4000000 in
theorem lives06_any (w : World) : Calls Try.prog 40 #[] w (Ret (.bool true) w) := by
  have HP := Lib.hid (prs_new w ps06)
  have hB := below_alloc w (.cells (prRow ps06).toArray 59)
  simp only [show (prRow ps06).toArray = #[.string ⟨#[98]⟩, .int .u64 2, .string ⟨#[97]⟩, .int .u64 1] from rfl] at HP hB
  have HB := Lib.hid hB
  clear hB
  go_enter Try.func40, Try.ntmps40
  go_wp2_with fail
  generalize w.alloc _ = W at HP HB ⊢
  refine (pmnew_any (some ⟨w.heap.size, 0, none⟩) 2 ps06 _ HP.out ps06_fit (by decide)).mono ?_
  rintro e w1 ⟨g, rfl, hg, hM, hb⟩
  rw [ps06_map] at hM
  obtain ⟨_, A, ca, B, cb, hM⟩ := hM
  have HM := Lib.hid hM
  replace HB := Lib.hid (below_of HB.out hb)
  clear hM hb HP
  go_wp2_with fail
  refine (ret_as (pmnext_any _ g _ _ txA A B ca cb _ HM.out rfl (by decide) (by decide)) ps06_next).mono ?_
  rintro e w2 ⟨rfl, hb⟩
  have hba := below_alloc w2 (.cells #[.string ⟨#[98]⟩, .int .u64 2] 59)
  have hn := heap_new w2 #[.string ⟨#[98]⟩, .int .u64 2] 59
  replace HM := Lib.hid ((HM.out.up hb).up hba)
  replace HB := Lib.hid (below_of (below_of HB.out hb) hba)
  clear hb hba
  go_upto_region 3 with fail
  generalize w2.alloc _ = w3 at hn HM HB ⊢
  generalize w2.heap.size = g3 at hn ⊢
  have HN := Lib.hid hn
  clear hn
  go_wp2_with fail
  refine (ret_as (pmprev_any _ g _ _ txA A B ca cb _ HM.out rfl (by decide) (by decide)) ps06_prev).mono ?_
  rintro e w4 ⟨rfl, hb⟩
  have hba := below_alloc w4 (.cells #[.string ⟨#[]⟩, .int .u64 0] 59)
  replace HM := Lib.hid ((HM.out.up hb).up hba)
  replace HB := Lib.hid (below_of (below_of HB.out hb) hba)
  have hlt := (Array.getElem?_eq_some_iff.1 HN.out).1
  replace HN := Lib.hid (((below_of hb hba).block g3 hlt).trans HN.out)
  clear hb hba hlt
  go_upto_region 4 with fail
  generalize w4.alloc _ = w5 at HN HM HB ⊢
  generalize w4.heap.size = g5
  go_wp2_with fail
  refine (prs_as (pmscan_any _ g _ _ txA txZ 1 A B ca cb _ HM.out rfl (by decide) (by decide) (by decide)) ps06_scan).mono ?_
  rintro e w6 ⟨Al, cl, rfl, hown, hb⟩
  have hlt := (Array.getElem?_eq_some_iff.1 HN.out).1
  replace HN := Lib.hid ((hb.block g3 hlt).trans HN.out)
  replace HM := Lib.hid (HM.out.up hb)
  replace HB := Lib.hid (below_of HB.out hb)
  obtain ⟨b, off, _, hA, _, c0, c1⟩ := (prs_of_own hown rfl).at_ (show 0 < 1 by omega)
  subst hA
  simp only [List.getElem_cons_zero, Nat.zero_mul, Nat.add_zero] at c0 c1
  obtain ⟨x0, x1, -, -⟩ := pr_facts HN.out
  clear hown hb hlt
  go_wp2_with fail
  refine (pmlen_any _ g _ _ A B ca cb _ HM.out).mono ?_
  rintro e w7 ⟨rfl, hb⟩
  replace HB := Lib.hid (below_of HB.out hb)
  go_wp2_with fail
  go_ret
  exact ⟨rfl, HB.out⟩

end Go.Proofs.Ytggjlnjpokdfpaa
