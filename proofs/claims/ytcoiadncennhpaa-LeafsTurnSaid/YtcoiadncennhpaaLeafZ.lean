/- The plain law of LeafsTell. -/
import Derived.Test.YtcoiadncennhpaaLeafRef
import Derived.Test.YtcoiadncennhpaaInPut
import Derived.Test.YtcoiadncennhpaaLeafCut
namespace Go.Proofs.Ytcoiadncennhpaa
open Go.RowKit

theorem leaf_up {d : Nd} (h : leafB d = true) : Pl.UpM (Pl.zipP d.keys d.vals) := Pl.zipP_up (leaf_len h).2.1.symm (leaf_len h).2.2
theorem zip_kb {ks : List ByteArray} {vs : List Int} (h : vs.length = ks.length) (j : Nat) (hj : j < (Pl.zipP ks vs).length) : Pl.kb (Pl.zipP ks vs)[j] = Pl.tx ks j := by
  have hl := Pl.zipP_len h.symm
  rw [Pl.zipP_at j (by omega) (by omega) hj, Pl.tx_eq ks j (by omega)]
  rfl
theorem tell_next {d : Nd} (h : leafB d = true) (k : List UInt8) : Pl.nextM (Pl.zipP d.keys d.vals) k = atO (Pl.zipP d.keys d.vals) (Pl.overAt d.keys k : Nat) := by
  have hv := (leaf_len h).2.1
  have hl := Pl.zipP_len hv.symm
  have hs := Pl.overAt_spec (leaf_len h).2.2 k
  rw [Pl.nextM_row (leaf_up h) (List.Perm.refl _) k (Pl.overAt d.keys k) (fun j hj hlt => by
    rw [zip_kb hv]
    exact hs.1 j hlt) (fun j hj hle => by
    rw [zip_kb hv]
    exact hs.2 j hle (by omega))]
  unfold atO
  rw [if_pos (by omega), Int.toNat_natCast]
theorem tell_prev {d : Nd} (h : leafB d = true) (k : List UInt8) : Pl.prevM (Pl.zipP d.keys d.vals) k false = atO (Pl.zipP d.keys d.vals) ((Pl.findAt d.keys k : Nat) - 1 : Int) := by
  have hv := (leaf_len h).2.1
  have hl := Pl.zipP_len hv.symm
  have hs := Pl.findAt_spec (leaf_len h).2.2 k
  rw [Pl.prevM_row (leaf_up h) (List.Perm.refl _) k (Pl.findAt d.keys k) (by rw [hl]; exact Pl.findAt_le _ _) (fun j hj hlt => by
    rw [zip_kb hv]
    exact hs.1 j hlt) (fun j hj hle => by
    rw [zip_kb hv]
    exact hs.2 j hle (by omega))]
  unfold atO
  by_cases h0 : Pl.findAt d.keys k = 0
  · rw [if_pos h0, if_neg (by omega)]
  · rw [if_neg h0, if_pos (by omega)]
    congr 1
    omega
theorem tell_last {d : Nd} (h : leafB d = true) (k : List UInt8) : Pl.prevM (Pl.zipP d.keys d.vals) k true = atO (Pl.zipP d.keys d.vals) ((d.keys.length : Nat) - 1 : Int) := by
  have hv := (leaf_len h).2.1
  have hl := Pl.zipP_len hv.symm
  rw [Pl.prevM_all (leaf_up h) (List.Perm.refl _) k]
  unfold atO
  by_cases h0 : (Pl.zipP d.keys d.vals).length = 0
  · rw [if_pos h0, if_neg (by omega)]
  · rw [if_neg h0, if_pos (by omega)]
    congr 1
    omega
theorem tell_all {d : Nd} (h : leafB d = true) : Pl.allM (Pl.zipP d.keys d.vals) (Pl.zipP d.keys d.vals).length = Pl.zipP d.keys d.vals := Pl.allM_all (leaf_up h) (List.Perm.refl _)

end Go.Proofs.Ytcoiadncennhpaa

namespace Go.Proofs.Ytcoiadncennhpaa
open Go.RowKit

/-- A node with a row of pairs. -/
def ofN (d : Nd) (l : List PairD) : Nd := ⟨d.level, d.low, d.high, d.last, d.next, l.map PairD.key, l.map PairD.val, d.kids⟩
theorem ofN_zip (d : Nd) {ks : List ByteArray} {vs : List Int} (h : ks.length = vs.length) : ofN d (Pl.zipP ks vs) = ⟨d.level, d.low, d.high, d.last, d.next, ks, vs, d.kids⟩ := by
  unfold ofN
  rw [Pl.zipP_keys h, Pl.zipP_vals h]
theorem has_key {d : Nd} {k : ByteArray} (e : hasD d k = true) : d.keys[atD d k]'((at_lt e).1) = k := by
  have h2 := (at_lt e).2
  rw [Pl.tx_eq d.keys _ (at_lt e).1] at h2
  exact ByteArray.ext (Array.toList_inj.1 h2)
theorem none_key {d : Nd} {k : ByteArray} (h : leafB d = true) (hf : hasD d k = false) : ∀ p ∈ Pl.zipP d.keys d.vals, p.key ≠ k := by
  intro p hp e
  have hv := (leaf_len h).2.1
  have hl := Pl.zipP_len hv.symm
  obtain ⟨i, hi, rfl⟩ := List.getElem_of_mem hp
  rw [Pl.zipP_at i (by omega) (by omega) hi] at e
  have := (Pl.findIs_iff (leaf_len h).2.2 k.data.toList).2 ⟨i, by omega, by rw [Pl.tx_eq d.keys i (by omega)]; simp only [] at e; rw [e]⟩
  unfold hasD at hf
  rw [hf] at this; cases this
theorem of_put {d : Nd} (h : leafB d = true) (k : ByteArray) (v : Int) : ofN d (Pl.allM (Pl.putM (Pl.zipP d.keys d.vals) k v) (Pl.putM (Pl.zipP d.keys d.vals) k v).length) = putD d k v := by
  have hv := (leaf_len h).2.1
  unfold putD
  cases hf : hasD d k
  · rw [if_neg Bool.false_ne_true]
    have hu := ups_ins (leaf_len h).2.2 hf
    have hle := at_le d k
    have e1 : (ins d.keys (atD d k) k).length = (ins d.vals (atD d k) v).length := by simp only [ins, List.length_append, List.length_take, List.length_cons, List.length_drop]; omega
    have hp := Pl.putM_ins (v := v) (i := atD d k) (List.Perm.refl (Pl.zipP d.keys d.vals)) (none_key h hf)
    rw [← Pl.zipP_ins hv.symm] at hp
    rw [Pl.allM_all (Pl.zipP_up e1 hu) hp, ofN_zip d e1]
    rfl
  · rw [if_pos rfl]
    have hlt := (at_lt hf).1
    have hk := has_key hf
    have hlz : atD d k < (Pl.zipP d.keys d.vals).length := by rw [Pl.zipP_len hv.symm]; exact hlt
    have h1 := Pl.putM_set (v := v) (leaf_up h) (List.Perm.refl _) hlz
    rw [Pl.zipP_at _ hlt (by omega) hlz] at h1
    have e1 : d.keys.length = (d.vals.set (atD d k) v).length := by rw [List.length_set]; exact hv.symm
    rw [← Pl.zipP_set hv.symm _ v hlt] at h1
    simp only [] at h1
    rw [hk] at h1
    rw [Pl.allM_all (Pl.zipP_up e1 (leaf_len h).2.2) h1, ofN_zip d e1]
    rfl
theorem of_del {d : Nd} (h : leafB d = true) {k : ByteArray} (hf : hasD d k = true) : ofN d (Pl.allM (Pl.delM (Pl.zipP d.keys d.vals) k) (Pl.delM (Pl.zipP d.keys d.vals) k).length) = cutD d k := by
  have hv := (leaf_len h).2.1
  have hlt := (at_lt hf).1
  have hk := has_key hf
  have hlz : atD d k < (Pl.zipP d.keys d.vals).length := by rw [Pl.zipP_len hv.symm]; exact hlt
  have h1 := Pl.delM_at (leaf_up h) _ hlz
  rw [Pl.zipP_at _ hlt (by omega) hlz] at h1
  simp only [] at h1
  rw [hk, ← Pl.zipP_cut hv.symm] at h1
  have e1 : (d.keys.eraseIdx (atD d k)).length = (d.vals.eraseIdx (atD d k)).length := by rw [List.length_eraseIdx, List.length_eraseIdx, hv]
  have hu := Pl.delM_up (leaf_up h) k
  rw [Pl.allM_all hu (List.Perm.refl _), h1, ofN_zip d e1]
  rfl
theorem get_has {d : Nd} (h : leafB d = true) (k : ByteArray) : (Pl.getM (Pl.zipP d.keys d.vals) k).2 = hasD d k := by
  have hv := (leaf_len h).2.1
  unfold Pl.getM
  cases hf : hasD d k
  · rw [Pl.gotM_none (none_key h hf)]
  · have hlt := (at_lt hf).1
    have hlz : atD d k < (Pl.zipP d.keys d.vals).length := by rw [Pl.zipP_len hv.symm]; exact hlt
    rw [Pl.gotM_some (leaf_up h).uniq (List.getElem_mem hlz) (by rw [Pl.zipP_at _ hlt (by omega) hlz]; exact has_key hf)]

end Go.Proofs.Ytcoiadncennhpaa

namespace Go.Proofs.Ytcoiadncennhpaa
open Go.RowKit

theorem key_push {l : List PairD} {j : Nat} (hj : j < l.length) : (l.take j).map PairD.key ++ [l[j].key] = (l.take (j + 1)).map PairD.key := by
  rw [List.take_add_one, List.getElem?_eq_getElem hj, Option.toList, List.map_append]
  rfl
theorem val_push {l : List PairD} {j : Nat} (hj : j < l.length) : (l.take j).map PairD.val ++ [l[j].val] = (l.take (j + 1)).map PairD.val := by
  rw [List.take_add_one, List.getElem?_eq_getElem hj, Option.toList, List.map_append]
  rfl
theorem fits_pairs {l : List PairD} (h : FitP l) : Fits (l.map PairD.key) := by
  intro j hj
  rw [List.getElem_map]
  exact h _ (List.getElem_mem _)
theorem Ow.prs0 {B : Nat} {W0 W : World} {L : List (Nat × Obj)} {R : List RowT} (h : Ow B W0 W L R) {A : Option Addr} {n c : Nat} {l : List PairD} (hi : R[0]? = some ⟨48, 2, .slice A n c, n, prRow l⟩) (hn : l.length = n) : Below B W0 W ∧ Prs W A n l :=
  ⟨h.below, prs_of_own (h.own 0 _ hi) hn⟩
theorem prs_cell {w : World} {b off n j : Nat} {l : List PairD} (h : Prs w (some ⟨b, off, none⟩) n l) (hj : j < l.length) : w.cell? ⟨b, off + j * 2, none⟩ = some (.string l[j].key) ∧ w.cell? ⟨b, off + j * 2 + 1, none⟩ = some (.int .u64 l[j].val) := by
  obtain ⟨bq, oq, hjq, hAq, -, k0, k1⟩ := h.at_ (show j < n by rw [← h.1]; exact hj)
  injection hAq with hAq
  injection hAq with hb1 hb2
  subst hb1 hb2
  exact ⟨k0, k1⟩
set_option maxRecDepth 100000 in
set_option maxHeartbeats 16000000 in
theorem refof_any (d : Nd) (ps : List PairD) (A B C M : Option Addr) (ca cb cc cm : Nat) (w : World) (h : Lies w d A B C ca cb cc) (hp : Prs w M ps.length ps) (hf : FitP ps) (hl : ps.length ≤ 1000) (hk : d.kids.length = 0) :
    Calls Try.prog 88 #[.agg (ndCells d A B C ca cb cc), .slice M ps.length cm] w (NOneF (ofN d (Pl.allM ps ps.length)) w) := by
  have hO := Ow.start (Sx.start2 w (.cells (ndCells d A B C ca cb cc) 26) (.cells #[.int .i64 0, .string ⟨#[]⟩, .string ⟨#[]⟩, .bool false, .int .i64 0, .slice none 0 0, .slice none 0 0, .slice none 0 0] 26))
  have H00 := Lib.hid h
  have HP0 := Lib.hid hp
  have HA := Lib.hid (fun W hW => all06_any M cm ps W hW hf hl)
  have hfl := allM_fit hf ps.length
  have hll := Pl.allM_len ps ps.length
  generalize ps.length = np at hl hll hfl HP0 HA ⊢
  generalize Pl.allM ps np = l at hfl hll HA ⊢
  generalize hon : ofN d l = o
  unfold ofN at hon
  obtain ⟨level, nlow, high, last, next, keys, vals, kids⟩ := d
  simp only [] at hk hon
  have HON := Lib.hid hon
  have HK := Lib.hid hk
  have HF := Lib.hid hfl
  clear hon hk hfl h hp hf
  simp only [ndCells] at hO ⊢
  go_enter Try.func88, Try.ntmps88
  go_upto_region 1 with fail
  generalize (w.alloc _).alloc _ = W at hO ⊢
  obtain ⟨x0, x1, x2, x3, x4, x5, x6, x7, f0, f1, f2, f3, f4, f5, f6, f7⟩ := nd_facts (hO.sx.has 0 _ _ rfl).1
  have HO := Lib.hid hO
  clear hO
  go_upto_region 2 with fail
  have hO := HO.out.setc 0 rfl 5 (.slice none 0 0)
  simp only [List.set_cons_zero, List.set_cons_succ] at hO
  generalize World.setCell _ _ _ = W5 at hO ⊢
  replace HO := Lib.hid hO
  clear hO
  clear x0 x1 x2 x3 x4 x5 x6 x7 f0 f1 f2 f3 f4 f5 f6 f7
  obtain ⟨x0, x1, x2, x3, x4, x5, x6, x7, f0, f1, f2, f3, f4, f5, f6, f7⟩ := nd_facts (HO.out.sx.has 0 _ _ rfl).1
  go_upto_region 3 with fail
  have hO := HO.out.setc 0 rfl 6 (.slice none 0 0)
  simp only [List.set_cons_zero, List.set_cons_succ] at hO
  generalize World.setCell _ _ _ = W6 at hO ⊢
  replace HO := Lib.hid hO
  clear hO
  clear x0 x1 x2 x3 x4 x5 x6 x7 f0 f1 f2 f3 f4 f5 f6 f7
  obtain ⟨x0, x1, x2, x3, x4, x5, x6, x7, f0, f1, f2, f3, f4, f5, f6, f7⟩ := nd_facts (HO.out.sx.has 0 _ _ rfl).1
  go_wp2_with fail
  refine (HA.out _ (HP0.out.up HO.out.below)).mono ?_
  rintro e wn ⟨A0, c0, rfl, hown, hbn⟩
  clear x0 x1 x2 x3 x4 x5 x6 x7 f0 f1 f2 f3 f4 f5 f6 f7
  have hO := ((HO.out.row hbn hown).nil 9 1).nil 35 1
  simp only [List.nil_append, List.cons_append] at hO
  clear hbn hown HO HA
  generalize hn : l.length = n at hO ⊢
  have HL0 := Lib.hid hn
  have hn63 : n ≤ 1000 := by omega
  clear hn hll hl
  have HO := Lib.hid hO
  clear hO
  go_wp2_with fail
  go_loopw [6] (fun i wr => ∃ (j : Nat) (A1 B1 : Option Addr) (c1 c2 : Nat), i = .int .i64 j ∧ Hid (j ≤ n ∧
    Ow w.heap.size w wr [(w.heap.size, .cells #[.int .i64 level, .string nlow, .string high, .bool last, .int .i64 next, .slice A1 j c1, .slice B1 j c2, .slice C kids.length cc] 26), (w.heap.size + 1, .cells #[.int .i64 0, .string ⟨#[]⟩, .string ⟨#[]⟩, .bool false, .int .i64 0, .slice none 0 0, .slice none 0 0, .slice none 0 0] 26)]
      [⟨48, 2, .slice A0 n c0, n, prRow l⟩, ⟨9, 1, .slice A1 j c1, j, strs ((l.take j).map PairD.key)⟩, ⟨35, 1, .slice B1 j c2, j, u64s ((l.take j).map PairD.val)⟩])) (fun i _ => n - (intOf i).toNat)
  case atStart => exact ⟨0, none, none, 0, 0, rfl, Nat.zero_le _, HO.out⟩
  case round =>
    obtain ⟨j, A1, B1, c1, c2, rfl, H⟩ := hrel
    clear HO
    have HO := Lib.hid H.out.2
    obtain ⟨x0, x1, x2, x3, x4, x5, x6, x7, f0, f1, f2, f3, f4, f5, f6, f7⟩ := nd_facts (HO.out.sx.has 0 _ _ rfl).1
    by_cases hlt : j < n
    · have hps := (Ow.prs0 HO.out rfl HL0.out).2
      obtain ⟨b, off, hjl, rfl, hbB, k0, k1⟩ := hps.at_ hlt
      have HLT := Lib.hid hlt
      have HS1 := Lib.hid (key_push hjl)
      have HS2 := Lib.hid (val_push hjl)
      have HM := Lib.hid (show j ≤ 1000 by omega)
      have hj63 : j ≤ 1000 := by omega
      clear hps hbB H k0 k1
      go_upto_region 7 with fail
      go_cut [] (fun wx => ∃ A2 c1, Hid (Ow w.heap.size w wx [(w.heap.size, .cells #[.int .i64 level, .string nlow, .string high, .bool last, .int .i64 next, .slice A2 (j + 1) c1, .slice B1 j c2, .slice C kids.length cc] 26), (w.heap.size + 1, .cells #[.int .i64 0, .string ⟨#[]⟩, .string ⟨#[]⟩, .bool false, .int .i64 0, .slice none 0 0, .slice none 0 0, .slice none 0 0] 26)]
      [⟨48, 2, .slice (some ⟨b, off, none⟩) n c0, n, prRow l⟩, ⟨9, 1, .slice A2 (j + 1) c1, j + 1, strs ((l.take (j + 1)).map PairD.key)⟩, ⟨35, 1, .slice B1 j c2, j, u64s ((l.take j).map PairD.val)⟩]))
      case first =>
        refine wp_region_held_drew (S := fun w' => Below w.heap.size w w' ∧ Prs w' (some ⟨b, off, none⟩) n l) (by kernel_rfl) (Ow.prs0 HO.out.drew rfl HL0.out) (fun hcur => ?_)
        (try dsimp only at hcur)
        replace HO := Lib.hid HO.out.drew
        generalize World.drew _ = X at HO hcur ⊢
        clear x0 x1 x2 x3 x4 x5 x6 x7 f0 f1 f2 f3 f4 f5 f6 f7
        obtain ⟨x0, x1, x2, x3, x4, x5, x6, x7, f0, f1, f2, f3, f4, f5, f6, f7⟩ := nd_facts (HO.out.sx.has 0 _ _ rfl).1
        refine wpAnyH_take (i := 0) (v := ?_) rfl (by decide +kernel) (by decide +kernel) (by decide +kernel) (fun _ _ _ h => h) (Or.inl ⟨by rfl, ?hy⟩) hcur ?_
        case hy =>
          intro w1 hSw
          (try dsimp only at hSw)
          have k0 := (prs_cell hSw.2 hjl).1
          have k1 := (prs_cell hSw.2 hjl).2
          go_simp
          (try with_reducible rfl)
        (try simp only [Act.put, List.getElem_toArray, List.getElem_cons_zero, List.getElem_cons_succ, List.setIfInBounds_toArray, List.set_cons_zero, List.set_cons_succ])
        refine wpAnyH_take (i := 2) (v := ?_) rfl (by decide +kernel) (by decide +kernel) (by decide +kernel) (fun _ _ _ h => h) (Or.inl ⟨by rfl, ?hy⟩) hcur ?_
        case hy =>
          intro w1 hSw
          (try dsimp only at hSw)
          have k0 := (prs_cell hSw.2 hjl).1
          have k1 := (prs_cell hSw.2 hjl).2
          go_simp
          (try with_reducible rfl)
        (try simp only [Act.put, List.getElem_toArray, List.getElem_cons_zero, List.getElem_cons_succ, List.setIfInBounds_toArray, List.set_cons_zero, List.set_cons_succ])
        refine wpAnyH_take (i := 3) (v := ?_) rfl (by decide +kernel) (by decide +kernel) (by decide +kernel) (fun _ _ _ h => h) (Or.inl ⟨by rfl, ?hy⟩) hcur ?_
        case hy =>
          intro w1 hSw
          (try dsimp only at hSw)
          have k0 := (prs_cell hSw.2 hjl).1
          have k1 := (prs_cell hSw.2 hjl).2
          go_simp
          (try with_reducible rfl)
        (try simp only [Act.put, List.getElem_toArray, List.getElem_cons_zero, List.getElem_cons_succ, List.setIfInBounds_toArray, List.set_cons_zero, List.set_cons_succ])
        refine wpAnyH_take (i := 4) (v := ?_) rfl (by decide +kernel) (by decide +kernel) (by decide +kernel) (fun _ _ _ h => h) (Or.inl ⟨by rfl, ?hy⟩) hcur ?_
        case hy =>
          intro w1 hSw
          (try dsimp only at hSw)
          have k0 := (prs_cell hSw.2 hjl).1
          have k1 := (prs_cell hSw.2 hjl).2
          go_simp
          (try with_reducible rfl)
        (try simp only [Act.put, List.getElem_toArray, List.getElem_cons_zero, List.getElem_cons_succ, List.setIfInBounds_toArray, List.set_cons_zero, List.set_cons_succ])
        refine wpAnyH_take (i := 5) (v := ?_) rfl (by decide +kernel) (by decide +kernel) (by decide +kernel) (fun _ _ _ h => h) (Or.inl ⟨by rfl, ?hy⟩) hcur ?_
        case hy =>
          intro w1 hSw
          (try dsimp only at hSw)
          have k0 := (prs_cell hSw.2 hjl).1
          have k1 := (prs_cell hSw.2 hjl).2
          go_simp
          (try with_reducible rfl)
        (try simp only [Act.put, List.getElem_toArray, List.getElem_cons_zero, List.getElem_cons_succ, List.setIfInBounds_toArray, List.set_cons_zero, List.set_cons_succ])
        refine wpAnyH_take (i := 6) (v := ?_) rfl (by decide +kernel) (by decide +kernel) (by decide +kernel) (fun _ _ _ h => h) (Or.inl ⟨by rfl, ?hy⟩) hcur ?_
        case hy =>
          intro w1 hSw
          (try dsimp only at hSw)
          have k0 := (prs_cell hSw.2 hjl).1
          have k1 := (prs_cell hSw.2 hjl).2
          go_simp
          (try with_reducible rfl)
        (try simp only [Act.put, List.getElem_toArray, List.getElem_cons_zero, List.getElem_cons_succ, List.setIfInBounds_toArray, List.set_cons_zero, List.set_cons_succ])
        obtain ⟨A9, c9, W9, hrun, hc9, hO⟩ := HO.out.pushS 1 rfl l[j].key (by have := HM.out; omega)
        simp only [List.set_cons_zero, List.set_cons_succ] at hO
        have Hrun := Lib.hid hrun
        have HP9 := Lib.hid hO
        clear hrun hO
        refine wpAnyH_ready (rs := [1, 7]) (by decide +kernel) (by simp) ?_
        refine AllReadyH.cons rfl (fun K hK => ?_) (AllReadyH.cons rfl (fun K hK => ?_) AllReadyH.nil)
        · go_simp
          refine hK.out _ _ (hcur) (fun hcur2 => ?_)
          clear hK K
          replace hcur := hcur2
          (try dsimp only at hcur)
          clear hcur2
          (try simp only [Act.put, List.getElem_toArray, List.getElem_cons_zero, List.getElem_cons_succ, List.setIfInBounds_toArray, List.set_cons_zero, List.set_cons_succ])
          refine wpAnyH_ready (rs := [7]) (by decide +kernel) (by simp) ?_
          refine AllReadyH.cons rfl (fun K hK => ?_) AllReadyH.nil
          go_simp
          refine hK.out _ _ (Ow.prs0 (HO.out.call (below_alloc X _)) rfl HL0.out) (fun hcur2 => ?_)
          clear hK K
          replace hcur := hcur2
          (try dsimp only at hcur)
          clear hcur2
          (try simp only [Act.put, List.getElem_toArray, List.getElem_cons_zero, List.getElem_cons_succ, List.setIfInBounds_toArray, List.set_cons_zero, List.set_cons_succ])
          refine wpAnyH_ready (rs := [8]) (by decide +kernel) (by simp) ?_
          refine AllReadyH.cons rfl (fun K hK => ?_) AllReadyH.nil
          (try rw [if_pos (by rfl)])
          refine oper_append_run (.tmp 18) (.tmp 24) 22 rfl rfl rfl Hrun.out ?_
          refine hK.out _ _ (Ow.prs0 HP9.out rfl HL0.out) (fun hcur2 => ?_)
          clear hK K
          replace hcur := hcur2
          (try dsimp only at hcur)
          clear hcur2
          (try simp only [Act.put, List.getElem_toArray, List.getElem_cons_zero, List.getElem_cons_succ, List.setIfInBounds_toArray, List.set_cons_zero, List.set_cons_succ])
          clear HO
          have HO := Lib.hid HP9.out
          clear Hrun HP9
          clear x0 x1 x2 x3 x4 x5 x6 x7 f0 f1 f2 f3 f4 f5 f6 f7
          obtain ⟨x0, x1, x2, x3, x4, x5, x6, x7, f0, f1, f2, f3, f4, f5, f6, f7⟩ := nd_facts (HO.out.sx.has 0 _ _ rfl).1
          refine wpAnyH_take (i := 9) (v := ?_) rfl (by decide +kernel) (by decide +kernel) (by decide +kernel) (fun _ _ _ h => h) (Or.inl ⟨by rfl, ?hy⟩) hcur ?_
          case hy =>
            intro w1 hSw
            (try dsimp only at hSw)
            have k0 := (prs_cell hSw.2 hjl).1
            have k1 := (prs_cell hSw.2 hjl).2
            go_simp
            (try with_reducible rfl)
          (try simp only [Act.put, List.getElem_toArray, List.getElem_cons_zero, List.getElem_cons_succ, List.setIfInBounds_toArray, List.set_cons_zero, List.set_cons_succ])
          refine wpAnyH_ready (rs := [10]) (by decide +kernel) (by simp) ?_
          refine AllReadyH.cons rfl (fun K hK => ?_) AllReadyH.nil
          go_simp
          have hO := HO.out.setc 0 rfl 5 (.slice A9 (j + 1) c9)
          simp only [List.set_cons_zero, List.set_cons_succ] at hO
          refine hK.out _ _ (Ow.prs0 hO rfl HL0.out) (fun hcur2 => ?_)
          clear hK K
          replace hcur := hcur2
          (try dsimp only at hcur)
          clear hcur2
          (try simp only [Act.put, List.getElem_toArray, List.getElem_cons_zero, List.getElem_cons_succ, List.setIfInBounds_toArray, List.set_cons_zero, List.set_cons_succ])
          generalize World.setCell _ _ _ = X9 at hO hcur ⊢
          replace HO := Lib.hid hO
          clear hO
          refine wpAnyH_done (by decide +kernel) ?_ _
          go_wp2_with fail
          (go_meet; exact ⟨A9, c9, Lib.hid (by have := HO.out; rw [HS1.out] at this; exact this)⟩)
        · go_simp
          refine hK.out _ _ (Ow.prs0 (HO.out.call (below_alloc X _)) rfl HL0.out) (fun hcur2 => ?_)
          clear hK K
          replace hcur := hcur2
          (try dsimp only at hcur)
          clear hcur2
          (try simp only [Act.put, List.getElem_toArray, List.getElem_cons_zero, List.getElem_cons_succ, List.setIfInBounds_toArray, List.set_cons_zero, List.set_cons_succ])
          replace HO := Lib.hid (HO.out.call (below_alloc X (.cells #[.string l[j].key] 9)))
          clear x0 x1 x2 x3 x4 x5 x6 x7 f0 f1 f2 f3 f4 f5 f6 f7
          obtain ⟨x0, x1, x2, x3, x4, x5, x6, x7, f0, f1, f2, f3, f4, f5, f6, f7⟩ := nd_facts (HO.out.sx.has 0 _ _ rfl).1
          refine wpAnyH_ready (rs := [1]) (by decide +kernel) (by simp) ?_
          refine AllReadyH.cons rfl (fun K hK => ?_) AllReadyH.nil
          go_simp
          refine hK.out _ _ (hcur) (fun hcur2 => ?_)
          clear hK K
          replace hcur := hcur2
          (try dsimp only at hcur)
          clear hcur2
          (try simp only [Act.put, List.getElem_toArray, List.getElem_cons_zero, List.getElem_cons_succ, List.setIfInBounds_toArray, List.set_cons_zero, List.set_cons_succ])
          refine wpAnyH_ready (rs := [8]) (by decide +kernel) (by simp) ?_
          refine AllReadyH.cons rfl (fun K hK => ?_) AllReadyH.nil
          (try rw [if_pos (by rfl)])
          refine oper_append_run (.tmp 18) (.tmp 24) 22 rfl rfl rfl Hrun.out ?_
          refine hK.out _ _ (Ow.prs0 HP9.out rfl HL0.out) (fun hcur2 => ?_)
          clear hK K
          replace hcur := hcur2
          (try dsimp only at hcur)
          clear hcur2
          (try simp only [Act.put, List.getElem_toArray, List.getElem_cons_zero, List.getElem_cons_succ, List.setIfInBounds_toArray, List.set_cons_zero, List.set_cons_succ])
          clear HO
          have HO := Lib.hid HP9.out
          clear Hrun HP9
          clear x0 x1 x2 x3 x4 x5 x6 x7 f0 f1 f2 f3 f4 f5 f6 f7
          obtain ⟨x0, x1, x2, x3, x4, x5, x6, x7, f0, f1, f2, f3, f4, f5, f6, f7⟩ := nd_facts (HO.out.sx.has 0 _ _ rfl).1
          refine wpAnyH_take (i := 9) (v := ?_) rfl (by decide +kernel) (by decide +kernel) (by decide +kernel) (fun _ _ _ h => h) (Or.inl ⟨by rfl, ?hy⟩) hcur ?_
          case hy =>
            intro w1 hSw
            (try dsimp only at hSw)
            have k0 := (prs_cell hSw.2 hjl).1
            have k1 := (prs_cell hSw.2 hjl).2
            go_simp
            (try with_reducible rfl)
          (try simp only [Act.put, List.getElem_toArray, List.getElem_cons_zero, List.getElem_cons_succ, List.setIfInBounds_toArray, List.set_cons_zero, List.set_cons_succ])
          refine wpAnyH_ready (rs := [10]) (by decide +kernel) (by simp) ?_
          refine AllReadyH.cons rfl (fun K hK => ?_) AllReadyH.nil
          go_simp
          have hO := HO.out.setc 0 rfl 5 (.slice A9 (j + 1) c9)
          simp only [List.set_cons_zero, List.set_cons_succ] at hO
          refine hK.out _ _ (Ow.prs0 hO rfl HL0.out) (fun hcur2 => ?_)
          clear hK K
          replace hcur := hcur2
          (try dsimp only at hcur)
          clear hcur2
          (try simp only [Act.put, List.getElem_toArray, List.getElem_cons_zero, List.getElem_cons_succ, List.setIfInBounds_toArray, List.set_cons_zero, List.set_cons_succ])
          generalize World.setCell _ _ _ = X9 at hO hcur ⊢
          replace HO := Lib.hid hO
          clear hO
          refine wpAnyH_done (by decide +kernel) ?_ _
          go_wp2_with fail
          (go_meet; exact ⟨A9, c9, Lib.hid (by have := HO.out; rw [HS1.out] at this; exact this)⟩)
      case rest =>
        clear HO
        obtain ⟨A2, c1', HO⟩ := hcut
        clear x0 x1 x2 x3 x4 x5 x6 x7 f0 f1 f2 f3 f4 f5 f6 f7
        obtain ⟨x0, x1, x2, x3, x4, x5, x6, x7, f0, f1, f2, f3, f4, f5, f6, f7⟩ := nd_facts (HO.out.sx.has 0 _ _ rfl).1
        go_upto_region 8 with fail
        refine wp_region_held_drew (S := fun w' => Below w.heap.size w w' ∧ Prs w' (some ⟨b, off, none⟩) n l) (by kernel_rfl) (Ow.prs0 HO.out.drew rfl HL0.out) (fun hcur => ?_)
        (try dsimp only at hcur)
        replace HO := Lib.hid HO.out.drew
        generalize World.drew _ = X at HO hcur ⊢
        clear x0 x1 x2 x3 x4 x5 x6 x7 f0 f1 f2 f3 f4 f5 f6 f7
        obtain ⟨x0, x1, x2, x3, x4, x5, x6, x7, f0, f1, f2, f3, f4, f5, f6, f7⟩ := nd_facts (HO.out.sx.has 0 _ _ rfl).1
        refine wpAnyH_take (i := 0) (v := ?_) rfl (by decide +kernel) (by decide +kernel) (by decide +kernel) (fun _ _ _ h => h) (Or.inl ⟨by rfl, ?hy⟩) hcur ?_
        case hy =>
          intro w1 hSw
          (try dsimp only at hSw)
          have k0 := (prs_cell hSw.2 hjl).1
          have k1 := (prs_cell hSw.2 hjl).2
          go_simp
          (try with_reducible rfl)
        (try simp only [Act.put, List.getElem_toArray, List.getElem_cons_zero, List.getElem_cons_succ, List.setIfInBounds_toArray, List.set_cons_zero, List.set_cons_succ])
        refine wpAnyH_take (i := 2) (v := ?_) rfl (by decide +kernel) (by decide +kernel) (by decide +kernel) (fun _ _ _ h => h) (Or.inl ⟨by rfl, ?hy⟩) hcur ?_
        case hy =>
          intro w1 hSw
          (try dsimp only at hSw)
          have k0 := (prs_cell hSw.2 hjl).1
          have k1 := (prs_cell hSw.2 hjl).2
          go_simp
          (try with_reducible rfl)
        (try simp only [Act.put, List.getElem_toArray, List.getElem_cons_zero, List.getElem_cons_succ, List.setIfInBounds_toArray, List.set_cons_zero, List.set_cons_succ])
        refine wpAnyH_take (i := 3) (v := ?_) rfl (by decide +kernel) (by decide +kernel) (by decide +kernel) (fun _ _ _ h => h) (Or.inl ⟨by rfl, ?hy⟩) hcur ?_
        case hy =>
          intro w1 hSw
          (try dsimp only at hSw)
          have k0 := (prs_cell hSw.2 hjl).1
          have k1 := (prs_cell hSw.2 hjl).2
          go_simp
          (try with_reducible rfl)
        (try simp only [Act.put, List.getElem_toArray, List.getElem_cons_zero, List.getElem_cons_succ, List.setIfInBounds_toArray, List.set_cons_zero, List.set_cons_succ])
        refine wpAnyH_take (i := 4) (v := ?_) rfl (by decide +kernel) (by decide +kernel) (by decide +kernel) (fun _ _ _ h => h) (Or.inl ⟨by rfl, ?hy⟩) hcur ?_
        case hy =>
          intro w1 hSw
          (try dsimp only at hSw)
          have k0 := (prs_cell hSw.2 hjl).1
          have k1 := (prs_cell hSw.2 hjl).2
          go_simp
          (try with_reducible rfl)
        (try simp only [Act.put, List.getElem_toArray, List.getElem_cons_zero, List.getElem_cons_succ, List.setIfInBounds_toArray, List.set_cons_zero, List.set_cons_succ])
        refine wpAnyH_take (i := 5) (v := ?_) rfl (by decide +kernel) (by decide +kernel) (by decide +kernel) (fun _ _ _ h => h) (Or.inl ⟨by rfl, ?hy⟩) hcur ?_
        case hy =>
          intro w1 hSw
          (try dsimp only at hSw)
          have k0 := (prs_cell hSw.2 hjl).1
          have k1 := (prs_cell hSw.2 hjl).2
          go_simp
          (try with_reducible rfl)
        (try simp only [Act.put, List.getElem_toArray, List.getElem_cons_zero, List.getElem_cons_succ, List.setIfInBounds_toArray, List.set_cons_zero, List.set_cons_succ])
        refine wpAnyH_take (i := 6) (v := ?_) rfl (by decide +kernel) (by decide +kernel) (by decide +kernel) (fun _ _ _ h => h) (Or.inl ⟨by rfl, ?hy⟩) hcur ?_
        case hy =>
          intro w1 hSw
          (try dsimp only at hSw)
          have k0 := (prs_cell hSw.2 hjl).1
          have k1 := (prs_cell hSw.2 hjl).2
          go_simp
          (try with_reducible rfl)
        (try simp only [Act.put, List.getElem_toArray, List.getElem_cons_zero, List.getElem_cons_succ, List.setIfInBounds_toArray, List.set_cons_zero, List.set_cons_succ])
        obtain ⟨A9, c9, W9, hrun, hc9, hO⟩ := HO.out.pushU 2 rfl l[j].val (by have := HM.out; omega)
        simp only [List.set_cons_zero, List.set_cons_succ] at hO
        have Hrun := Lib.hid hrun
        have HP9 := Lib.hid hO
        clear hrun hO
        refine wpAnyH_ready (rs := [1, 7]) (by decide +kernel) (by simp) ?_
        refine AllReadyH.cons rfl (fun K hK => ?_) (AllReadyH.cons rfl (fun K hK => ?_) AllReadyH.nil)
        · go_simp
          refine hK.out _ _ (hcur) (fun hcur2 => ?_)
          clear hK K
          replace hcur := hcur2
          (try dsimp only at hcur)
          clear hcur2
          (try simp only [Act.put, List.getElem_toArray, List.getElem_cons_zero, List.getElem_cons_succ, List.setIfInBounds_toArray, List.set_cons_zero, List.set_cons_succ])
          refine wpAnyH_ready (rs := [7]) (by decide +kernel) (by simp) ?_
          refine AllReadyH.cons rfl (fun K hK => ?_) AllReadyH.nil
          go_simp
          refine hK.out _ _ (Ow.prs0 (HO.out.call (below_alloc X _)) rfl HL0.out) (fun hcur2 => ?_)
          clear hK K
          replace hcur := hcur2
          (try dsimp only at hcur)
          clear hcur2
          (try simp only [Act.put, List.getElem_toArray, List.getElem_cons_zero, List.getElem_cons_succ, List.setIfInBounds_toArray, List.set_cons_zero, List.set_cons_succ])
          refine wpAnyH_ready (rs := [8]) (by decide +kernel) (by simp) ?_
          refine AllReadyH.cons rfl (fun K hK => ?_) AllReadyH.nil
          (try rw [if_pos (by rfl)])
          refine oper_append_run (.tmp 28) (.tmp 34) 23 rfl rfl rfl Hrun.out ?_
          refine hK.out _ _ (Ow.prs0 HP9.out rfl HL0.out) (fun hcur2 => ?_)
          clear hK K
          replace hcur := hcur2
          (try dsimp only at hcur)
          clear hcur2
          (try simp only [Act.put, List.getElem_toArray, List.getElem_cons_zero, List.getElem_cons_succ, List.setIfInBounds_toArray, List.set_cons_zero, List.set_cons_succ])
          clear HO
          have HO := Lib.hid HP9.out
          clear Hrun HP9
          clear x0 x1 x2 x3 x4 x5 x6 x7 f0 f1 f2 f3 f4 f5 f6 f7
          obtain ⟨x0, x1, x2, x3, x4, x5, x6, x7, f0, f1, f2, f3, f4, f5, f6, f7⟩ := nd_facts (HO.out.sx.has 0 _ _ rfl).1
          refine wpAnyH_take (i := 9) (v := ?_) rfl (by decide +kernel) (by decide +kernel) (by decide +kernel) (fun _ _ _ h => h) (Or.inl ⟨by rfl, ?hy⟩) hcur ?_
          case hy =>
            intro w1 hSw
            (try dsimp only at hSw)
            have k0 := (prs_cell hSw.2 hjl).1
            have k1 := (prs_cell hSw.2 hjl).2
            go_simp
            (try with_reducible rfl)
          (try simp only [Act.put, List.getElem_toArray, List.getElem_cons_zero, List.getElem_cons_succ, List.setIfInBounds_toArray, List.set_cons_zero, List.set_cons_succ])
          refine wpAnyH_ready (rs := [10]) (by decide +kernel) (by simp) ?_
          refine AllReadyH.cons rfl (fun K hK => ?_) AllReadyH.nil
          go_simp
          have hO := HO.out.setc 0 rfl 6 (.slice A9 (j + 1) c9)
          simp only [List.set_cons_zero, List.set_cons_succ] at hO
          refine hK.out _ _ (Ow.prs0 hO rfl HL0.out) (fun hcur2 => ?_)
          clear hK K
          replace hcur := hcur2
          (try dsimp only at hcur)
          clear hcur2
          (try simp only [Act.put, List.getElem_toArray, List.getElem_cons_zero, List.getElem_cons_succ, List.setIfInBounds_toArray, List.set_cons_zero, List.set_cons_succ])
          generalize World.setCell _ _ _ = X9 at hO hcur ⊢
          replace HO := Lib.hid hO
          clear hO
          refine wpAnyH_done (by decide +kernel) ?_ _
          go_wp2_with fail
          (go_roundw; (case rel => exact ⟨j + 1, A2, A9, c1', c9, by go_num, HLT.out, (by have := HO.out; rw [HS2.out] at this; exact this)⟩); (case measure => simp [intOf]; omega))
        · go_simp
          refine hK.out _ _ (Ow.prs0 (HO.out.call (below_alloc X _)) rfl HL0.out) (fun hcur2 => ?_)
          clear hK K
          replace hcur := hcur2
          (try dsimp only at hcur)
          clear hcur2
          (try simp only [Act.put, List.getElem_toArray, List.getElem_cons_zero, List.getElem_cons_succ, List.setIfInBounds_toArray, List.set_cons_zero, List.set_cons_succ])
          replace HO := Lib.hid (HO.out.call (below_alloc X (.cells #[.int .u64 l[j].val] 35)))
          clear x0 x1 x2 x3 x4 x5 x6 x7 f0 f1 f2 f3 f4 f5 f6 f7
          obtain ⟨x0, x1, x2, x3, x4, x5, x6, x7, f0, f1, f2, f3, f4, f5, f6, f7⟩ := nd_facts (HO.out.sx.has 0 _ _ rfl).1
          refine wpAnyH_ready (rs := [1]) (by decide +kernel) (by simp) ?_
          refine AllReadyH.cons rfl (fun K hK => ?_) AllReadyH.nil
          go_simp
          refine hK.out _ _ (hcur) (fun hcur2 => ?_)
          clear hK K
          replace hcur := hcur2
          (try dsimp only at hcur)
          clear hcur2
          (try simp only [Act.put, List.getElem_toArray, List.getElem_cons_zero, List.getElem_cons_succ, List.setIfInBounds_toArray, List.set_cons_zero, List.set_cons_succ])
          refine wpAnyH_ready (rs := [8]) (by decide +kernel) (by simp) ?_
          refine AllReadyH.cons rfl (fun K hK => ?_) AllReadyH.nil
          (try rw [if_pos (by rfl)])
          refine oper_append_run (.tmp 28) (.tmp 34) 23 rfl rfl rfl Hrun.out ?_
          refine hK.out _ _ (Ow.prs0 HP9.out rfl HL0.out) (fun hcur2 => ?_)
          clear hK K
          replace hcur := hcur2
          (try dsimp only at hcur)
          clear hcur2
          (try simp only [Act.put, List.getElem_toArray, List.getElem_cons_zero, List.getElem_cons_succ, List.setIfInBounds_toArray, List.set_cons_zero, List.set_cons_succ])
          clear HO
          have HO := Lib.hid HP9.out
          clear Hrun HP9
          clear x0 x1 x2 x3 x4 x5 x6 x7 f0 f1 f2 f3 f4 f5 f6 f7
          obtain ⟨x0, x1, x2, x3, x4, x5, x6, x7, f0, f1, f2, f3, f4, f5, f6, f7⟩ := nd_facts (HO.out.sx.has 0 _ _ rfl).1
          refine wpAnyH_take (i := 9) (v := ?_) rfl (by decide +kernel) (by decide +kernel) (by decide +kernel) (fun _ _ _ h => h) (Or.inl ⟨by rfl, ?hy⟩) hcur ?_
          case hy =>
            intro w1 hSw
            (try dsimp only at hSw)
            have k0 := (prs_cell hSw.2 hjl).1
            have k1 := (prs_cell hSw.2 hjl).2
            go_simp
            (try with_reducible rfl)
          (try simp only [Act.put, List.getElem_toArray, List.getElem_cons_zero, List.getElem_cons_succ, List.setIfInBounds_toArray, List.set_cons_zero, List.set_cons_succ])
          refine wpAnyH_ready (rs := [10]) (by decide +kernel) (by simp) ?_
          refine AllReadyH.cons rfl (fun K hK => ?_) AllReadyH.nil
          go_simp
          have hO := HO.out.setc 0 rfl 6 (.slice A9 (j + 1) c9)
          simp only [List.set_cons_zero, List.set_cons_succ] at hO
          refine hK.out _ _ (Ow.prs0 hO rfl HL0.out) (fun hcur2 => ?_)
          clear hK K
          replace hcur := hcur2
          (try dsimp only at hcur)
          clear hcur2
          (try simp only [Act.put, List.getElem_toArray, List.getElem_cons_zero, List.getElem_cons_succ, List.setIfInBounds_toArray, List.set_cons_zero, List.set_cons_succ])
          generalize World.setCell _ _ _ = X9 at hO hcur ⊢
          replace HO := Lib.hid hO
          clear hO
          refine wpAnyH_done (by decide +kernel) ?_ _
          go_wp2_with fail
          (go_roundw; (case rel => exact ⟨j + 1, A2, A9, c1', c9, by go_num, HLT.out, (by have := HO.out; rw [HS2.out] at this; exact this)⟩); (case measure => simp [intOf]; omega))
    · obtain rfl : j = n := by have := H.out.1; omega
      clear H hlt
      have hO := HO.out
      rw [List.take_of_length_le (by rw [HL0.out]; exact Nat.le_refl _)] at hO
      obtain ⟨y0, y1, y2, y3, y4, y5, y6, y7, q0, q1, q2, q3, q4, q5, q6, q7⟩ := nd_facts (hO.sx.has 1 _ _ rfl).1
      have hZ := hO.store 1 rfl (.int .i64 level) (.string nlow) (.string high) (.bool last) (.int .i64 next) (.slice A1 j c1) (.slice B1 j c2) (.slice C kids.length cc)
      have hkr : RdS _ A1 j (l.map PairD.key) := hZ.rowRd 1 rfl
      have hcr : RdU _ B1 j (l.map PairD.val) := hZ.rowRd 2 rfl
      have hkl : (l.map PairD.key).length = j := by rw [List.length_map]; exact HL0.out
      have hcl : (l.map PairD.val).length = j := by rw [List.length_map]; exact HL0.out
      have hup := H00.out.up hZ.below
      have hlies : LiesF w.heap.size _ ⟨level, nlow, high, last, next, l.map PairD.key, l.map PairD.val, kids⟩ A1 B1 C c1 c2 cc :=
        ⟨{ low := H00.out.low, high := H00.out.high, fit := fits_pairs HF.out, la := by simp only []; omega, lb := by simp only []; omega, lc := H00.out.lc
           keys := by rw [hkl]; exact hkr
           vals := by rw [hcl]; exact hcr
           kids := hup.kids
           ka := by rw [hkl]; exact hZ.rowLe 1 rfl
           kb := by rw [hcl]; exact hZ.rowLe 2 rfl
           kc := H00.out.kc },
         fun _ a e => hZ.rowF 1 rfl a e, fun _ a e => hZ.rowF 2 rfl a e, fun q => by have := HK.out; simp only [] at q; omega⟩
      have hcells : ndCells ⟨level, nlow, high, last, next, l.map PairD.key, l.map PairD.val, kids⟩ A1 B1 C c1 c2 cc = #[.int .i64 level, .string nlow, .string high, .bool last, .int .i64 next, .slice A1 j c1, .slice B1 j c2, .slice C kids.length cc] := by
        simp only [ndCells, hkl, hcl]
      have HFI := And.intro hZ.below (And.intro hlies hcells)
      simp only [set8] at HFI
      replace HFI := Lib.hid HFI
      clear hZ hkr hcr hkl hcl hlies hcells hup hO HO
      obtain rfl := HON.out
      go_wp2_with fail
      exact bodyPost_ret (v := .agg #[.int .i64 level, .string nlow, .string high, .bool last, .int .i64 next, .slice A1 j c1, .slice B1 j c2, .slice C kids.length cc]) (by simp [results, Try.results88, go_sem, *]) rfl ⟨A1, B1, C, c1, c2, cc, by rw [HFI.out.2.2], HFI.out.2.1, HFI.out.1⟩

end Go.Proofs.Ytcoiadncennhpaa

namespace Go.Proofs.Ytcoiadncennhpaa
open Go.RowKit

theorem zip_fit {d : Nd} (h : leafB d = true) {A B C : Option Addr} {ca cb cc : Nat} {w : World} (hl : Lies w d A B C ca cb cc) : FitP (Pl.zipP d.keys d.vals) := by
  have hv := (leaf_len h).2.1
  have hz := Pl.zipP_len hv.symm
  intro p hp
  obtain ⟨j, hj, rfl⟩ := List.getElem_of_mem hp
  rw [Pl.zipP_at j (by omega) (by omega) hj]
  exact hl.fit j (by omega)
theorem del_fit {ps : List PairD} (h : FitP ps) (k : ByteArray) : FitP (Pl.delM ps k) := fun p hp => h p (List.mem_filter.1 hp).1
theorem put_fit {ps : List PairD} (h : FitP ps) (k : ByteArray) (v : Int) (hk : k.size ≤ maxLen) : FitP (Pl.putM ps k v) := by
  intro p hp
  unfold Pl.putM at hp
  rw [List.mem_append, List.mem_singleton] at hp
  rcases hp with hp | rfl
  · exact del_fit h k p hp
  · exact hk
theorem put_len (ps : List PairD) (k : ByteArray) (v : Int) : (Pl.putM ps k v).length ≤ ps.length + 1 := by
  unfold Pl.putM
  rw [List.length_append, List.length_singleton]
  have := delM_len ps k
  omega
theorem leaf_kids {d : Nd} (h : leafB d = true) : d.kids.length = 0 := ((leafB_iff d).1 h).2.2.2.2.2.2.1
set_option maxRecDepth 100000 in
set_option maxHeartbeats 16000000 in
theorem refwithout_any (d : Nd) (k : ByteArray) (A B C : Option Addr) (ca cb cc : Nat) (w : World) (h : Lies w d A B C ca cb cc) :
    Calls Try.prog 32 #[.agg (ndCells d A B C ca cb cc), .string k] w (NRet (withoutD d k) w) := by
  have hS := Lib.hid (Sx.start2 w (.cells (ndCells d A B C ca cb cc) 26) (.cells #[.int .i64 0, .string ⟨#[]⟩, .string ⟨#[]⟩, .bool false, .int .i64 0, .slice none 0 0, .slice none 0 0, .slice none 0 0] 26))
  have H00 := Lib.hid h
  have HLe := Lib.hid (fun W hW => refleaf_any d A B C ca cb cc W hW)
  have HPr := Lib.hid (fun W hW (q : leafB d = true) => refpairs_any d A B C ca cb cc W hW (leaf_len q).2.1 (by have := (leaf_len q).1; omega))
  have HGe := Lib.hid (fun (q : leafB d = true) A c W hW => get06_any A c (Pl.zipP d.keys d.vals) k W hW (by rw [Pl.zipP_len (leaf_len q).2.1.symm]; have := (leaf_len q).1; omega))
  have HDe := Lib.hid (fun (q : leafB d = true) A c W hW => del06_any A c (Pl.zipP d.keys d.vals) k W hW (by rw [Pl.zipP_len (leaf_len q).2.1.symm]; have := (leaf_len q).1; omega))
  have HOf := Lib.hid (fun (q : leafB d = true) M cm W (hW : Lies W d A B C ca cb cc) hp => refof_any d (Pl.delM (Pl.zipP d.keys d.vals) k) A B C M ca cb cc cm W hW hp (del_fit (zip_fit q hW) k) (by have := delM_len (Pl.zipP d.keys d.vals) k; rw [Pl.zipP_len (leaf_len q).2.1.symm] at this; have := (leaf_len q).1; omega) (leaf_kids q))
  have HGH := Lib.hid (fun (q : leafB d = true) => get_has q k)
  have HOD := Lib.hid (fun (q : leafB d = true) (q2 : hasD d k = true) => of_del q q2)
  have hn1 := Lib.hid (withoutD_leaf (d := d) (k := k))
  have hn2 := Lib.hid (withoutD_has (d := d) (k := k))
  have hy := Lib.hid (withoutD_yes (d := d) (k := k))
  clear h
  generalize hon : withoutD d k = o at hn1 hn2 hy ⊢
  clear hon
  generalize Pl.zipP d.keys d.vals = ps at HPr HGe HDe HOf HGH HOD
  generalize Pl.delM ps k = qs at HDe HOf HOD
  generalize ofN d (Pl.allM qs qs.length) = on at HOf HOD
  generalize cutD d k = cd at HOD hy
  generalize hasD d k = hd at HGH HOD hn2 hy
  generalize Pl.getM ps k = gm at HGe HGH
  obtain ⟨gv, gb⟩ := gm
  simp only [] at HGe HGH
  generalize leafB d = lb at HLe HPr HGe HDe HOf HGH HOD hn1 hy
  obtain ⟨level, nlow, high, last, next, keys, vals, kids⟩ := d
  simp only [ndCells] at hS HLe HPr HOf ⊢
  go_enter Try.func32, Try.ntmps32
  go_upto_region 1 with fail
  generalize (w.alloc _).alloc _ = W at hS ⊢
  obtain ⟨x0, x1, x2, x3, x4, x5, x6, x7, f0, f1, f2, f3, f4, f5, f6, f7⟩ := nd_facts (hS.out.has 0 _ _ rfl).1
  go_wp2_with fail
  refine (HLe.out _ (H00.out.up hS.out.below)).mono ?_
  rintro e wn ⟨rfl, hbn⟩
  clear x0 x1 x2 x3 x4 x5 x6 x7 f0 f1 f2 f3 f4 f5 f6 f7
  replace hS := Lib.hid (hS.out.call hbn)
  clear hbn
  obtain ⟨x0, x1, x2, x3, x4, x5, x6, x7, f0, f1, f2, f3, f4, f5, f6, f7⟩ := nd_facts (hS.out.has 0 _ _ rfl).1
  cases lb
  · obtain rfl : o = (false, zeroN) := hn1.out rfl
    obtain ⟨y0, y1, y2, y3, y4, y5, y6, y7, q0, q1, q2, q3, q4, q5, q6, q7⟩ := nd_facts (hS.out.has 1 _ _ rfl).1
    have hZ := (hS.out.store 1 rfl (.int .i64 0) (.string ⟨#[]⟩) (.string ⟨#[]⟩) (.bool false) (.int .i64 0) (.slice none 0 0) (.slice none 0 0) (.slice none 0 0)).below
    simp only [set8] at hZ
    have HZ := Lib.hid hZ
    clear hZ
    go_wp2_with fail
    exact bodyPost_ret (v := .tuple #[.agg #[.int .i64 0, .string ⟨#[]⟩, .string ⟨#[]⟩, .bool false, .int .i64 0, .slice none 0 0, .slice none 0 0, .slice none 0 0], .bool false]) (by simp [results, Try.results32, go_sem, *]) rfl ⟨none, none, none, 0, 0, 0, rfl, zero_lies _, HZ.out⟩
  · go_wp2_with fail
    refine (HPr.out _ (H00.out.up hS.out.below) (by trivial)).mono ?_
    rintro e wn ⟨Ap, cp, rfl, hown, hbn⟩
    clear x0 x1 x2 x3 x4 x5 x6 x7 f0 f1 f2 f3 f4 f5 f6 f7
    replace hS := Lib.hid (hS.out.call hbn)
    have HQ := Lib.hid (prs_of_own hown rfl)
    clear hbn hown
    go_wp2_with fail
    refine (HGe.out (by trivial) _ _ _ HQ.out).mono ?_
    rintro e wm ⟨rfl, hbn⟩
    replace hS := Lib.hid (hS.out.call hbn)
    replace HQ := Lib.hid (HQ.out.up hbn)
    clear hbn
    obtain rfl : gb = hd := HGH.out (by trivial)
    cases gb
    · obtain rfl : o = (false, zeroN) := hn2.out rfl
      obtain ⟨x0, x1, x2, x3, x4, x5, x6, x7, f0, f1, f2, f3, f4, f5, f6, f7⟩ := nd_facts (hS.out.has 0 _ _ rfl).1
      obtain ⟨y0, y1, y2, y3, y4, y5, y6, y7, q0, q1, q2, q3, q4, q5, q6, q7⟩ := nd_facts (hS.out.has 1 _ _ rfl).1
      have hZ := (hS.out.store 1 rfl (.int .i64 0) (.string ⟨#[]⟩) (.string ⟨#[]⟩) (.bool false) (.int .i64 0) (.slice none 0 0) (.slice none 0 0) (.slice none 0 0)).below
      simp only [set8] at hZ
      have HZ := Lib.hid hZ
      clear hZ
      go_wp2_with fail
      exact bodyPost_ret (v := .tuple #[.agg #[.int .i64 0, .string ⟨#[]⟩, .string ⟨#[]⟩, .bool false, .int .i64 0, .slice none 0 0, .slice none 0 0, .slice none 0 0], .bool false]) (by simp [results, Try.results32, go_sem, *]) rfl ⟨none, none, none, 0, 0, 0, rfl, zero_lies _, HZ.out⟩
    · obtain rfl : o = (true, cd) := hy.out (by trivial) rfl
      obtain rfl : on = cd := HOD.out (by trivial) rfl
      clear hn1 hn2 hy HOD HGH HGe HPr HLe
      go_upto_region 7 with fail
      have hd := Below.drew (Below.refl wm.heap.size wm)
      replace hS := Lib.hid (hS.out.call hd)
      replace HQ := Lib.hid (HQ.out.up hd)
      clear hd
      refine wp_region_held_drew (S := fun w' => Sx w.heap.size w w' [(w.heap.size, .cells #[.int .i64 level, .string nlow, .string high, .bool last, .int .i64 next, .slice A keys.length ca, .slice B vals.length cb, .slice C kids.length cc] 26)]) (by kernel_rfl) (hS.out.top 1) (fun hcur => ?_)
      (try dsimp only at hcur)
      generalize wm.drew = X at hS HQ hcur ⊢
      refine wpAnyH_take (i := 0) (v := ?_) rfl (by decide +kernel) (by decide +kernel) (by decide +kernel) (fun _ _ _ h => h) (Or.inl ⟨by rfl, ?hy⟩) hcur ?_
      case hy =>
        intro w1 hSw
        (try dsimp only at hSw)
        obtain ⟨x0, x1, x2, x3, x4, x5, x6, x7, -, -, -, -, -, -, -, -⟩ := nd_facts (hSw.has 0 _ _ rfl).1
        go_simp
        (try with_reducible rfl)
      (try simp only [Act.put, List.getElem_toArray, List.getElem_cons_zero, List.getElem_cons_succ, List.setIfInBounds_toArray, List.set_cons_zero, List.set_cons_succ])
      refine wpAnyH_take (i := 1) (v := ?_) rfl (by decide +kernel) (by decide +kernel) (by decide +kernel) (fun _ _ _ h => h) (Or.inl ⟨by rfl, ?hy⟩) hcur ?_
      case hy =>
        intro w1 hSw
        (try dsimp only at hSw)
        obtain ⟨x0, x1, x2, x3, x4, x5, x6, x7, -, -, -, -, -, -, -, -⟩ := nd_facts (hSw.has 0 _ _ rfl).1
        go_simp
        (try with_reducible rfl)
      (try simp only [Act.put, List.getElem_toArray, List.getElem_cons_zero, List.getElem_cons_succ, List.setIfInBounds_toArray, List.set_cons_zero, List.set_cons_succ])
      refine wpAnyH_take (i := 2) (v := ?_) rfl (by decide +kernel) (by decide +kernel) (by decide +kernel) (fun _ _ _ h => h) (Or.inl ⟨by rfl, ?hy⟩) hcur ?_
      case hy =>
        intro w1 hSw
        (try dsimp only at hSw)
        obtain ⟨x0, x1, x2, x3, x4, x5, x6, x7, -, -, -, -, -, -, -, -⟩ := nd_facts (hSw.has 0 _ _ rfl).1
        go_simp
        (try with_reducible rfl)
      (try simp only [Act.put, List.getElem_toArray, List.getElem_cons_zero, List.getElem_cons_succ, List.setIfInBounds_toArray, List.set_cons_zero, List.set_cons_succ])
      refine wpAnyH_ready (rs := [3]) (by decide +kernel) (by simp) ?_
      refine AllReadyH.cons rfl (fun K hK => ?_) AllReadyH.nil
      go_simp
      refine (HDe.out (by trivial) _ _ _ HQ.out).mono ?_
      rintro e X2 ⟨Aq, cq, rfl, hown, hbn⟩
      replace hS := Lib.hid (hS.out.call hbn)
      have HR := Lib.hid (prs_of_own hown rfl)
      clear hbn hown HQ
      go_wp2_with fail
      refine hK.out _ _ (hS.out.top 1) (fun hcur2 => ?_)
      clear hK K
      replace hcur := hcur2
      (try dsimp only at hcur)
      clear hcur2
      (try simp only [Act.put, List.getElem_toArray, List.getElem_cons_zero, List.getElem_cons_succ, List.setIfInBounds_toArray, List.set_cons_zero, List.set_cons_succ])
      refine wpAnyH_ready (rs := [4]) (by decide +kernel) (by simp) ?_
      refine AllReadyH.cons rfl (fun K hK => ?_) AllReadyH.nil
      go_simp
      have HBW := Lib.hid (hS.out.lt (i := 1) rfl)
      refine (HOf.out (by trivial) _ _ _ (H00.out.up hS.out.below) HR.out).mono ?_
      rintro e X3 ⟨A1, B1, C1, ca1, cb1, cc1, rfl, hl, hb⟩
      replace hS := Lib.hid (hS.out.call hb)
      clear hb HR
      obtain ⟨level1, nlow1, high1, last1, next1, keys1, vals1, kids1⟩ := on
      simp only [ndCells]
      go_wp2_with fail
      refine hK.out _ _ (hS.out.top 1) (fun hcur2 => ?_)
      clear hK K
      replace hcur := hcur2
      (try dsimp only at hcur)
      clear hcur2
      (try simp only [Act.put, List.getElem_toArray, List.getElem_cons_zero, List.getElem_cons_succ, List.setIfInBounds_toArray, List.set_cons_zero, List.set_cons_succ])
      refine wpAnyH_ready (rs := [5]) (by decide +kernel) (by simp) ?_
      refine AllReadyH.cons rfl (fun K hK => ?_) AllReadyH.nil
      obtain ⟨y0, y1, y2, y3, y4, y5, y6, y7, q0, q1, q2, q3, q4, q5, q6, q7⟩ := nd_facts (hS.out.has 1 _ _ rfl).1
      go_simp
      have hZ := And.intro (hS.out.store 1 rfl (.int .i64 level1) (.string nlow1) (.string high1) (.bool last1) (.int .i64 next1) (.slice A1 keys1.length ca1) (.slice B1 vals1.length cb1) (.slice C1 kids1.length cc1)) (hl.off (set8_off _ (w.heap.size + 1) (.int .i64 level1) (.string nlow1) (.string high1) (.bool last1) (.int .i64 next1) (.slice A1 keys1.length ca1) (.slice B1 vals1.length cb1) (.slice C1 kids1.length cc1)) (fun k q => by rw [q]; exact HBW.out))
      simp only [set8] at hZ
      clear y0 y1 y2 y3 y4 y5 y6 y7 q0 q1 q2 q3 q4 q5 q6 q7
      replace hS := Lib.hid hZ.1
      replace hl := hZ.2
      clear hZ
      simp only [List.cons_append, List.nil_append, List.set_cons_zero, List.set_cons_succ] at hS
      refine hK.out _ _ (hS.out.top 1) (fun hcur2 => ?_)
      clear hK K
      replace hcur := hcur2
      (try dsimp only at hcur)
      clear hcur2
      (try simp only [Act.put, List.getElem_toArray, List.getElem_cons_zero, List.getElem_cons_succ, List.setIfInBounds_toArray, List.set_cons_zero, List.set_cons_succ])
      generalize World.setCell _ _ _ = X4 at hS hl hcur ⊢
      refine wpAnyH_take (i := 6) (v := ?_) rfl (by decide +kernel) (by decide +kernel) (by decide +kernel) (fun _ _ _ h => h) (Or.inl ⟨by rfl, ?hy⟩) hcur ?_
      case hy =>
        intro w1 hSw
        (try dsimp only at hSw)
        obtain ⟨x0, x1, x2, x3, x4, x5, x6, x7, -, -, -, -, -, -, -, -⟩ := nd_facts (hSw.has 0 _ _ rfl).1
        go_simp
        (try with_reducible rfl)
      (try simp only [Act.put, List.getElem_toArray, List.getElem_cons_zero, List.getElem_cons_succ, List.setIfInBounds_toArray, List.set_cons_zero, List.set_cons_succ])
      refine wpAnyH_done (by decide +kernel) ?_ _
      have HFI := Lib.hid (And.intro hS.out.below hl.lies)
      obtain ⟨y0, y1, y2, y3, y4, y5, y6, y7, q0, q1, q2, q3, q4, q5, q6, q7⟩ := nd_facts (hS.out.has 1 _ _ rfl).1
      clear hcur hl
      go_wp2_with fail
      exact bodyPost_ret (v := .tuple #[.agg #[.int .i64 level1, .string nlow1, .string high1, .bool last1, .int .i64 next1, .slice A1 keys1.length ca1, .slice B1 vals1.length cb1, .slice C1 kids1.length cc1], .bool true]) (by simp [results, Try.results32, go_sem, *]) rfl ⟨_, _, _, _, _, _, by simp [ndCells], HFI.out.2, HFI.out.1⟩


end Go.Proofs.Ytcoiadncennhpaa

namespace Go.Proofs.Ytcoiadncennhpaa
open Go.RowKit

set_option maxRecDepth 100000 in
set_option maxHeartbeats 16000000 in
theorem refwith_any (d : Nd) (k : ByteArray) (v fan : Int) (A B C : Option Addr) (ca cb cc : Nat) (w : World) (h : Lies w d A B C ca cb cc) (hk : k.size ≤ maxLen) :
    Calls Try.prog 30 #[.agg (ndCells d A B C ca cb cc), .string k, .int .u64 v, .int .i64 fan] w (NRet (withD d k v fan) w) := by
  have hS := Lib.hid (Sx.start2 w (.cells (ndCells d A B C ca cb cc) 26) (.cells #[.int .i64 0, .string ⟨#[]⟩, .string ⟨#[]⟩, .bool false, .int .i64 0, .slice none 0 0, .slice none 0 0, .slice none 0 0] 26))
  have H00 := Lib.hid h
  have HLe := Lib.hid (fun W hW => refleaf_any d A B C ca cb cc W hW)
  have HKy := Lib.hid (fun W => refkey_any k W hk)
  have HIs := Lib.hid (fun W => refinside_any d.low d.high d.last k W h.low h.high hk)
  have HPr := Lib.hid (fun W hW (q : leafB d = true) => refpairs_any d A B C ca cb cc W hW (leaf_len q).2.1 (by have := (leaf_len q).1; omega))
  have HPu := Lib.hid (fun (q : leafB d = true) A c W hW => put06_any A c (Pl.zipP d.keys d.vals) k v W hW (by rw [Pl.zipP_len (leaf_len q).2.1.symm]; have := (leaf_len q).1; omega))
  have HOf := Lib.hid (fun (q : leafB d = true) M cm W (hW : Lies W d A B C ca cb cc) hp => refof_any d (Pl.putM (Pl.zipP d.keys d.vals) k v) A B C M ca cb cc cm W hW hp (put_fit (zip_fit q hW) k v hk) (by have := put_len (Pl.zipP d.keys d.vals) k v; rw [Pl.zipP_len (leaf_len q).2.1.symm] at this; have := (leaf_len q).1; omega) (leaf_kids q))
  have HOD := Lib.hid (fun (q : leafB d = true) => of_put q k v)
  rw [show (!Pl.ls k.data.toList d.low.data.toList && (d.last || Pl.ls k.data.toList d.high.data.toList)) = insB d k from rfl] at HIs
  have hpb : mayB d k fan = (leafB d && (decide (4 ≤ fan ∧ fan ≤ 64) && (goodB k && insB d k))) := rfl
  have hno := Lib.hid (fun (q : mayB d k fan = false) => withD_no (v := v) q)
  have hyes := Lib.hid (fun (q : mayB d k fan = true) => withD_yes (v := v) q)
  clear h hk
  generalize hon : withD d k v fan = o at hno hyes ⊢
  clear hon
  generalize mayB d k fan = pb at hpb hno hyes
  generalize Pl.zipP d.keys d.vals = ps at HPr HPu HOf HOD
  generalize Pl.putM ps k v = qs at HPu HOf HOD
  generalize ofN d (Pl.allM qs qs.length) = on at HOf HOD
  generalize putD d k v = pn at HOD hyes
  generalize goodB k = gb at HKy hpb
  generalize insB d k = ns at HIs hpb
  generalize leafB d = lb at HLe HPr HPu HOf HOD hpb
  have HPB := Lib.hid hpb
  clear hpb
  obtain ⟨level, nlow, high, last, next, keys, vals, kids⟩ := d
  simp only [ndCells] at hS HLe HPr HOf ⊢
  simp only [] at HIs
  go_enter Try.func30, Try.ntmps30
  go_upto_region 1 with fail
  generalize (w.alloc _).alloc _ = W at hS ⊢
  obtain ⟨x0, x1, x2, x3, x4, x5, x6, x7, f0, f1, f2, f3, f4, f5, f6, f7⟩ := nd_facts (hS.out.has 0 _ _ rfl).1
  go_wp2_with fail
  refine (HLe.out _ (H00.out.up hS.out.below)).mono ?_
  rintro e wn ⟨rfl, hbn⟩
  clear x0 x1 x2 x3 x4 x5 x6 x7 f0 f1 f2 f3 f4 f5 f6 f7
  replace hS := Lib.hid (hS.out.call hbn)
  clear hbn
  obtain ⟨x0, x1, x2, x3, x4, x5, x6, x7, f0, f1, f2, f3, f4, f5, f6, f7⟩ := nd_facts (hS.out.has 0 _ _ rfl).1
  cases lb
  · obtain rfl : o = (false, zeroN) := hno.out (by rw [HPB.out]; rfl)
    obtain ⟨y0, y1, y2, y3, y4, y5, y6, y7, q0, q1, q2, q3, q4, q5, q6, q7⟩ := nd_facts (hS.out.has 1 _ _ rfl).1
    have hZ := (hS.out.store 1 rfl (.int .i64 0) (.string ⟨#[]⟩) (.string ⟨#[]⟩) (.bool false) (.int .i64 0) (.slice none 0 0) (.slice none 0 0) (.slice none 0 0)).below
    simp only [set8] at hZ
    have HZ := Lib.hid hZ
    clear hZ
    go_wp2_with fail
    exact bodyPost_ret (v := .tuple #[.agg #[.int .i64 0, .string ⟨#[]⟩, .string ⟨#[]⟩, .bool false, .int .i64 0, .slice none 0 0, .slice none 0 0, .slice none 0 0], .bool false]) (by simp [results, Try.results30, go_sem, *]) rfl ⟨none, none, none, 0, 0, 0, rfl, zero_lies _, HZ.out⟩
  · by_cases h1 : fan < 4
    · obtain rfl : o = (false, zeroN) := hno.out (by rw [HPB.out, decide_eq_false (p := 4 ≤ fan ∧ fan ≤ 64) (by omega)]; rfl)
      have h1b : decide (fan < 4) = true := decide_eq_true h1
      obtain ⟨y0, y1, y2, y3, y4, y5, y6, y7, q0, q1, q2, q3, q4, q5, q6, q7⟩ := nd_facts (hS.out.has 1 _ _ rfl).1
      have hZ := (hS.out.store 1 rfl (.int .i64 0) (.string ⟨#[]⟩) (.string ⟨#[]⟩) (.bool false) (.int .i64 0) (.slice none 0 0) (.slice none 0 0) (.slice none 0 0)).below
      simp only [set8] at hZ
      have HZ := Lib.hid hZ
      clear hZ
      go_wp2_with fail
      exact bodyPost_ret (v := .tuple #[.agg #[.int .i64 0, .string ⟨#[]⟩, .string ⟨#[]⟩, .bool false, .int .i64 0, .slice none 0 0, .slice none 0 0, .slice none 0 0], .bool false]) (by simp [results, Try.results30, go_sem, *]) rfl ⟨none, none, none, 0, 0, 0, rfl, zero_lies _, HZ.out⟩
    · have h1b : decide (fan < 4) = false := decide_eq_false h1
      by_cases h2 : 64 < fan
      · obtain rfl : o = (false, zeroN) := hno.out (by rw [HPB.out, decide_eq_false (p := 4 ≤ fan ∧ fan ≤ 64) (by omega)]; rfl)
        have h2b : decide (64 < fan) = true := decide_eq_true h2
        obtain ⟨y0, y1, y2, y3, y4, y5, y6, y7, q0, q1, q2, q3, q4, q5, q6, q7⟩ := nd_facts (hS.out.has 1 _ _ rfl).1
        have hZ := (hS.out.store 1 rfl (.int .i64 0) (.string ⟨#[]⟩) (.string ⟨#[]⟩) (.bool false) (.int .i64 0) (.slice none 0 0) (.slice none 0 0) (.slice none 0 0)).below
        simp only [set8] at hZ
        have HZ := Lib.hid hZ
        clear hZ
        go_wp2_with fail
        exact bodyPost_ret (v := .tuple #[.agg #[.int .i64 0, .string ⟨#[]⟩, .string ⟨#[]⟩, .bool false, .int .i64 0, .slice none 0 0, .slice none 0 0, .slice none 0 0], .bool false]) (by simp [results, Try.results30, go_sem, *]) rfl ⟨none, none, none, 0, 0, 0, rfl, zero_lies _, HZ.out⟩
      · have h2b : decide (64 < fan) = false := decide_eq_false h2
        have HF := Lib.hid (And.intro h1 h2)
        clear h1 h2
        go_wp2_with fail
        refine (HKy.out _).mono ?_
        rintro e wn ⟨rfl, hbn⟩
        clear x0 x1 x2 x3 x4 x5 x6 x7 f0 f1 f2 f3 f4 f5 f6 f7
        replace hS := Lib.hid (hS.out.call hbn)
        clear hbn
        obtain ⟨x0, x1, x2, x3, x4, x5, x6, x7, f0, f1, f2, f3, f4, f5, f6, f7⟩ := nd_facts (hS.out.has 0 _ _ rfl).1
        cases gb
        · obtain rfl : o = (false, zeroN) := hno.out (by rw [HPB.out]; simp)
          obtain ⟨y0, y1, y2, y3, y4, y5, y6, y7, q0, q1, q2, q3, q4, q5, q6, q7⟩ := nd_facts (hS.out.has 1 _ _ rfl).1
          have hZ := (hS.out.store 1 rfl (.int .i64 0) (.string ⟨#[]⟩) (.string ⟨#[]⟩) (.bool false) (.int .i64 0) (.slice none 0 0) (.slice none 0 0) (.slice none 0 0)).below
          simp only [set8] at hZ
          have HZ := Lib.hid hZ
          clear hZ
          go_wp2_with fail
          exact bodyPost_ret (v := .tuple #[.agg #[.int .i64 0, .string ⟨#[]⟩, .string ⟨#[]⟩, .bool false, .int .i64 0, .slice none 0 0, .slice none 0 0, .slice none 0 0], .bool false]) (by simp [results, Try.results30, go_sem, *]) rfl ⟨none, none, none, 0, 0, 0, rfl, zero_lies _, HZ.out⟩
        · go_wp2_with fail
          refine (HIs.out _).mono ?_
          rintro e wn ⟨rfl, hbn⟩
          clear x0 x1 x2 x3 x4 x5 x6 x7 f0 f1 f2 f3 f4 f5 f6 f7
          replace hS := Lib.hid (hS.out.call hbn)
          clear hbn
          obtain ⟨x0, x1, x2, x3, x4, x5, x6, x7, f0, f1, f2, f3, f4, f5, f6, f7⟩ := nd_facts (hS.out.has 0 _ _ rfl).1
          clear h1b h2b
          cases ns
          · obtain rfl : o = (false, zeroN) := hno.out (by rw [HPB.out]; simp)
            obtain ⟨y0, y1, y2, y3, y4, y5, y6, y7, q0, q1, q2, q3, q4, q5, q6, q7⟩ := nd_facts (hS.out.has 1 _ _ rfl).1
            have hZ := (hS.out.store 1 rfl (.int .i64 0) (.string ⟨#[]⟩) (.string ⟨#[]⟩) (.bool false) (.int .i64 0) (.slice none 0 0) (.slice none 0 0) (.slice none 0 0)).below
            simp only [set8] at hZ
            have HZ := Lib.hid hZ
            clear hZ
            go_wp2_with fail
            exact bodyPost_ret (v := .tuple #[.agg #[.int .i64 0, .string ⟨#[]⟩, .string ⟨#[]⟩, .bool false, .int .i64 0, .slice none 0 0, .slice none 0 0, .slice none 0 0], .bool false]) (by simp [results, Try.results30, go_sem, *]) rfl ⟨none, none, none, 0, 0, 0, rfl, zero_lies _, HZ.out⟩
          · have hpt : pb = true := by rw [HPB.out, decide_eq_true (p := 4 ≤ fan ∧ fan ≤ 64) (by have := HF.out; omega)]; rfl
            have HO := Lib.hid (hyes.out hpt)
            obtain rfl : on = pn := HOD.out (by trivial)
            clear hpt hno hyes HPB HOD HLe HKy HIs HF
            clear x0 x1 x2 x3 x4 x5 x6 x7 f0 f1 f2 f3 f4 f5 f6 f7
            obtain ⟨level1, nlow1, high1, last1, next1, keys1, vals1, kids1⟩ := on
            go_upto_region 3 with fail
            go_cut [10] (fun s10 wx => ∃ g7 A1 B1 C1 ca1 cb1 cc1, s10 = .pointer (some ⟨g7, 0, none⟩) ∧ Hid (Sx w.heap.size w wx [(w.heap.size, .cells #[.int .i64 level, .string nlow, .string high, .bool last, .int .i64 next, .slice A keys.length ca, .slice B vals.length cb, .slice C kids.length cc] 26), (w.heap.size + 1, .cells #[.int .i64 0, .string ⟨#[]⟩, .string ⟨#[]⟩, .bool false, .int .i64 0, .slice none 0 0, .slice none 0 0, .slice none 0 0] 26), (g7, .cells #[.int .i64 level1, .string nlow1, .string high1, .bool last1, .int .i64 next1, .slice A1 keys1.length ca1, .slice B1 vals1.length cb1, .slice C1 kids1.length cc1] 26)] ∧ LiesF (w.heap.size + 2) wx ⟨level1, nlow1, high1, last1, next1, keys1, vals1, kids1⟩ A1 B1 C1 ca1 cb1 cc1))
            case first =>
              have hd := Below.drew (Below.refl wn.heap.size wn)
              replace hS := Lib.hid (hS.out.call hd)
              clear hd
              refine wp_region_held_drew (S := fun w' => Sx w.heap.size w w' [(w.heap.size, .cells #[.int .i64 level, .string nlow, .string high, .bool last, .int .i64 next, .slice A keys.length ca, .slice B vals.length cb, .slice C kids.length cc] 26)]) (by kernel_rfl) (hS.out.top 1) (fun hcur => ?_)
              (try dsimp only at hcur)
              generalize wn.drew = X at hS hcur ⊢
              refine wpAnyH_take (i := 0) (v := ?_) rfl (by decide +kernel) (by decide +kernel) (by decide +kernel) (fun _ _ _ h => h) (Or.inl ⟨by rfl, ?hy⟩) hcur ?_
              case hy =>
                intro w1 hSw
                (try dsimp only at hSw)
                obtain ⟨x0, x1, x2, x3, x4, x5, x6, x7, -, -, -, -, -, -, -, -⟩ := nd_facts (hSw.has 0 _ _ rfl).1
                go_simp
                (try with_reducible rfl)
              (try simp only [Act.put, List.getElem_toArray, List.getElem_cons_zero, List.getElem_cons_succ, List.setIfInBounds_toArray, List.set_cons_zero, List.set_cons_succ])
              refine wpAnyH_take (i := 1) (v := ?_) rfl (by decide +kernel) (by decide +kernel) (by decide +kernel) (fun _ _ _ h => h) (Or.inl ⟨by rfl, ?hy⟩) hcur ?_
              case hy =>
                intro w1 hSw
                (try dsimp only at hSw)
                obtain ⟨x0, x1, x2, x3, x4, x5, x6, x7, -, -, -, -, -, -, -, -⟩ := nd_facts (hSw.has 0 _ _ rfl).1
                go_simp
                (try with_reducible rfl)
              (try simp only [Act.put, List.getElem_toArray, List.getElem_cons_zero, List.getElem_cons_succ, List.setIfInBounds_toArray, List.set_cons_zero, List.set_cons_succ])
              refine wpAnyH_take (i := 3) (v := ?_) rfl (by decide +kernel) (by decide +kernel) (by decide +kernel) (fun _ _ _ h => h) (Or.inl ⟨by rfl, ?hy⟩) hcur ?_
              case hy =>
                intro w1 hSw
                (try dsimp only at hSw)
                obtain ⟨x0, x1, x2, x3, x4, x5, x6, x7, -, -, -, -, -, -, -, -⟩ := nd_facts (hSw.has 0 _ _ rfl).1
                go_simp
                (try with_reducible rfl)
              (try simp only [Act.put, List.getElem_toArray, List.getElem_cons_zero, List.getElem_cons_succ, List.setIfInBounds_toArray, List.set_cons_zero, List.set_cons_succ])
              refine wpAnyH_take (i := 4) (v := ?_) rfl (by decide +kernel) (by decide +kernel) (by decide +kernel) (fun _ _ _ h => h) (Or.inl ⟨by rfl, ?hy⟩) hcur ?_
              case hy =>
                intro w1 hSw
                (try dsimp only at hSw)
                obtain ⟨x0, x1, x2, x3, x4, x5, x6, x7, -, -, -, -, -, -, -, -⟩ := nd_facts (hSw.has 0 _ _ rfl).1
                go_simp
                (try with_reducible rfl)
              (try simp only [Act.put, List.getElem_toArray, List.getElem_cons_zero, List.getElem_cons_succ, List.setIfInBounds_toArray, List.set_cons_zero, List.set_cons_succ])
              refine wpAnyH_ready (rs := [2, 7]) (by decide +kernel) (by simp) ?_
              refine AllReadyH.cons rfl (fun K hK => ?_) (AllReadyH.cons rfl (fun K hK => ?_) AllReadyH.nil)
              · go_simp
                refine (HPr.out _ (H00.out.up hS.out.below) (by trivial)).mono ?_
                rintro e X1 ⟨Ap, cp, rfl, hown, hbn⟩
                replace hS := Lib.hid (hS.out.call hbn)
                have HQ := Lib.hid (prs_of_own hown rfl)
                clear hbn hown
                go_wp2_with fail
                refine hK.out _ _ (hS.out.top 1) (fun hcur2 => ?_)
                clear hK K
                replace hcur := hcur2
                (try dsimp only at hcur)
                clear hcur2
                (try simp only [Act.put, List.getElem_toArray, List.getElem_cons_zero, List.getElem_cons_succ, List.setIfInBounds_toArray, List.set_cons_zero, List.set_cons_succ])
                refine wpAnyH_ready (rs := [5, 7]) (by decide +kernel) (by simp) ?_
                refine AllReadyH.cons rfl (fun K hK => ?_) (AllReadyH.cons rfl (fun K hK => ?_) AllReadyH.nil)
                · go_simp
                  refine (HPu.out (by trivial) _ _ _ HQ.out).mono ?_
                  rintro e X2 ⟨Aq, cq, rfl, hown, hbn⟩
                  replace hS := Lib.hid (hS.out.call hbn)
                  have HR := Lib.hid (prs_of_own hown rfl)
                  clear hbn hown HQ
                  go_wp2_with fail
                  refine hK.out _ _ (hS.out.top 1) (fun hcur2 => ?_)
                  clear hK K
                  replace hcur := hcur2
                  (try dsimp only at hcur)
                  clear hcur2
                  (try simp only [Act.put, List.getElem_toArray, List.getElem_cons_zero, List.getElem_cons_succ, List.setIfInBounds_toArray, List.set_cons_zero, List.set_cons_succ])
                  refine wpAnyH_ready (rs := [6, 7]) (by decide +kernel) (by simp) ?_
                  refine AllReadyH.cons rfl (fun K hK => ?_) (AllReadyH.cons rfl (fun K hK => ?_) AllReadyH.nil)
                  · have HBW := Lib.hid (hS.out.lt (i := 1) rfl)
                    go_simp
                    refine (HOf.out (by trivial) _ _ _ (H00.out.up hS.out.below) HR.out).mono ?_
                    rintro e X3 ⟨A1, B1, C1, ca1, cb1, cc1, rfl, hl, hb⟩
                    replace hS := Lib.hid (hS.out.call hb)
                    clear hb HR
                    simp only [ndCells]
                    go_wp2_with fail
                    refine hK.out _ _ (hS.out.top 1) (fun hcur2 => ?_)
                    clear hK K
                    replace hcur := hcur2
                    (try dsimp only at hcur)
                    clear hcur2
                    (try simp only [Act.put, List.getElem_toArray, List.getElem_cons_zero, List.getElem_cons_succ, List.setIfInBounds_toArray, List.set_cons_zero, List.set_cons_succ])
                    refine wpAnyH_ready (rs := [7]) (by decide +kernel) (by simp) ?_
                    refine AllReadyH.cons rfl (fun K hK => ?_) AllReadyH.nil
                    go_simp
                    have hba := below_alloc X3 (.cells #[.int .i64 0, .string ⟨#[]⟩, .string ⟨#[]⟩, .bool false, .int .i64 0, .slice none 0 0, .slice none 0 0, .slice none 0 0] 26)
                    have hbz := fun (g : Nat) (hg : X3.heap.size ≤ g) => hl.up (set8_below hba g hg (.int .i64 level1) (.string nlow1) (.string high1) (.bool last1) (.int .i64 next1) (.slice A1 keys1.length ca1) (.slice B1 vals1.length cb1) (.slice C1 kids1.length cc1))
                    replace hS := Lib.hid (hS.out.alloc (.cells #[.int .i64 0, .string ⟨#[]⟩, .string ⟨#[]⟩, .bool false, .int .i64 0, .slice none 0 0, .slice none 0 0, .slice none 0 0] 26))
                    simp only [List.cons_append, List.nil_append, List.set_cons_zero, List.set_cons_succ] at hS
                    refine hK.out _ _ (hS.out.top 1) (fun hcur2 => ?_)
                    clear hK K
                    replace hcur := hcur2
                    (try dsimp only at hcur)
                    clear hcur2
                    (try simp only [Act.put, List.getElem_toArray, List.getElem_cons_zero, List.getElem_cons_succ, List.setIfInBounds_toArray, List.set_cons_zero, List.set_cons_succ])
                    generalize hgg : X3.heap.size = g7 at hS ⊢
                    have HGE := Lib.hid (show X3.heap.size ≤ g7 by omega)
                    clear hba hgg hl
                    generalize X3.alloc _ = X9 at hS hbz hcur ⊢
                    have HBZ := Lib.hid hbz
                    clear hbz
                    refine wpAnyH_ready (rs := [8]) (by decide +kernel) (by simp) ?_
                    refine AllReadyH.cons rfl (fun K hK => ?_) AllReadyH.nil
                    obtain ⟨y0, y1, y2, y3, y4, y5, y6, y7, q0, q1, q2, q3, q4, q5, q6, q7⟩ := nd_facts (hS.out.has 2 _ _ rfl).1
                    go_simp
                    have hZ := And.intro (hS.out.store 2 rfl (.int .i64 level1) (.string nlow1) (.string high1) (.bool last1) (.int .i64 next1) (.slice A1 keys1.length ca1) (.slice B1 vals1.length cb1) (.slice C1 kids1.length cc1)) (HBZ.out g7 HGE.out)
                    simp only [set8] at hZ
                    clear y0 y1 y2 y3 y4 y5 y6 y7 q0 q1 q2 q3 q4 q5 q6 q7
                    replace hS := Lib.hid hZ.1
                    have hl := hZ.2
                    clear hZ HBZ HGE
                    simp only [List.cons_append, List.nil_append, List.set_cons_zero, List.set_cons_succ] at hS
                    refine hK.out _ _ (hS.out.top 1) (fun hcur2 => ?_)
                    clear hK K
                    replace hcur := hcur2
                    (try dsimp only at hcur)
                    clear hcur2
                    (try simp only [Act.put, List.getElem_toArray, List.getElem_cons_zero, List.getElem_cons_succ, List.setIfInBounds_toArray, List.set_cons_zero, List.set_cons_succ])
                    generalize World.setCell _ _ _ = X4 at hS hl hcur ⊢
                    refine wpAnyH_done (by decide +kernel) ?_ _
                    have HFF := Lib.hid (And.intro hS.out (hl.mono (B' := w.heap.size + 2) (by have := HBW.out; omega)))
                    clear hcur hl hS
                    go_wp2_with fail
                    go_meet
                    exact ⟨g7, A1, B1, C1, ca1, cb1, cc1, rfl, HFF⟩
                  · go_simp
                    have hba := below_alloc X2 (.cells #[.int .i64 0, .string ⟨#[]⟩, .string ⟨#[]⟩, .bool false, .int .i64 0, .slice none 0 0, .slice none 0 0, .slice none 0 0] 26)
                    replace HR := Lib.hid (HR.out.up hba)
                    replace hS := Lib.hid (hS.out.alloc (.cells #[.int .i64 0, .string ⟨#[]⟩, .string ⟨#[]⟩, .bool false, .int .i64 0, .slice none 0 0, .slice none 0 0, .slice none 0 0] 26))
                    simp only [List.cons_append, List.nil_append, List.set_cons_zero, List.set_cons_succ] at hS
                    refine hK.out _ _ (hS.out.top 1) (fun hcur2 => ?_)
                    clear hK K
                    replace hcur := hcur2
                    (try dsimp only at hcur)
                    clear hcur2
                    (try simp only [Act.put, List.getElem_toArray, List.getElem_cons_zero, List.getElem_cons_succ, List.setIfInBounds_toArray, List.set_cons_zero, List.set_cons_succ])
                    clear hba
                    generalize X2.heap.size = g7 at hS ⊢
                    generalize X2.alloc _ = X9 at hS HR hcur ⊢
                    refine wpAnyH_ready (rs := [6]) (by decide +kernel) (by simp) ?_
                    refine AllReadyH.cons rfl (fun K hK => ?_) AllReadyH.nil
                    have HBW := Lib.hid (And.intro (hS.out.lt (i := 1) rfl) (hS.out.lt (i := 2) rfl))
                    go_simp
                    refine (HOf.out (by trivial) _ _ _ (H00.out.up hS.out.below) HR.out).mono ?_
                    rintro e X3 ⟨A1, B1, C1, ca1, cb1, cc1, rfl, hl, hb⟩
                    replace hS := Lib.hid (hS.out.call hb)
                    clear hb HR
                    simp only [ndCells]
                    go_wp2_with fail
                    refine hK.out _ _ (hS.out.top 1) (fun hcur2 => ?_)
                    clear hK K
                    replace hcur := hcur2
                    (try dsimp only at hcur)
                    clear hcur2
                    (try simp only [Act.put, List.getElem_toArray, List.getElem_cons_zero, List.getElem_cons_succ, List.setIfInBounds_toArray, List.set_cons_zero, List.set_cons_succ])
                    refine wpAnyH_ready (rs := [8]) (by decide +kernel) (by simp) ?_
                    refine AllReadyH.cons rfl (fun K hK => ?_) AllReadyH.nil
                    obtain ⟨y0, y1, y2, y3, y4, y5, y6, y7, q0, q1, q2, q3, q4, q5, q6, q7⟩ := nd_facts (hS.out.has 2 _ _ rfl).1
                    go_simp
                    have hZ := And.intro (hS.out.store 2 rfl (.int .i64 level1) (.string nlow1) (.string high1) (.bool last1) (.int .i64 next1) (.slice A1 keys1.length ca1) (.slice B1 vals1.length cb1) (.slice C1 kids1.length cc1)) (hl.off (set8_off _ g7 (.int .i64 level1) (.string nlow1) (.string high1) (.bool last1) (.int .i64 next1) (.slice A1 keys1.length ca1) (.slice B1 vals1.length cb1) (.slice C1 kids1.length cc1)) (fun k q => by rw [q]; exact HBW.out.2))
                    simp only [set8] at hZ
                    clear y0 y1 y2 y3 y4 y5 y6 y7 q0 q1 q2 q3 q4 q5 q6 q7
                    replace hS := Lib.hid hZ.1
                    replace hl := hZ.2
                    clear hZ
                    simp only [List.cons_append, List.nil_append, List.set_cons_zero, List.set_cons_succ] at hS
                    refine hK.out _ _ (hS.out.top 1) (fun hcur2 => ?_)
                    clear hK K
                    replace hcur := hcur2
                    (try dsimp only at hcur)
                    clear hcur2
                    (try simp only [Act.put, List.getElem_toArray, List.getElem_cons_zero, List.getElem_cons_succ, List.setIfInBounds_toArray, List.set_cons_zero, List.set_cons_succ])
                    generalize World.setCell _ _ _ = X4 at hS hl hcur ⊢
                    refine wpAnyH_done (by decide +kernel) ?_ _
                    have HFF := Lib.hid (And.intro hS.out (hl.mono (B' := w.heap.size + 2) (by have := HBW.out.1; omega)))
                    clear hcur hl hS
                    go_wp2_with fail
                    go_meet
                    exact ⟨g7, A1, B1, C1, ca1, cb1, cc1, rfl, HFF⟩
                · go_simp
                  have hba := below_alloc X1 (.cells #[.int .i64 0, .string ⟨#[]⟩, .string ⟨#[]⟩, .bool false, .int .i64 0, .slice none 0 0, .slice none 0 0, .slice none 0 0] 26)
                  replace HQ := Lib.hid (HQ.out.up hba)
                  replace hS := Lib.hid (hS.out.alloc (.cells #[.int .i64 0, .string ⟨#[]⟩, .string ⟨#[]⟩, .bool false, .int .i64 0, .slice none 0 0, .slice none 0 0, .slice none 0 0] 26))
                  simp only [List.cons_append, List.nil_append, List.set_cons_zero, List.set_cons_succ] at hS
                  refine hK.out _ _ (hS.out.top 1) (fun hcur2 => ?_)
                  clear hK K
                  replace hcur := hcur2
                  (try dsimp only at hcur)
                  clear hcur2
                  (try simp only [Act.put, List.getElem_toArray, List.getElem_cons_zero, List.getElem_cons_succ, List.setIfInBounds_toArray, List.set_cons_zero, List.set_cons_succ])
                  clear hba
                  generalize X1.heap.size = g7 at hS ⊢
                  generalize X1.alloc _ = X9 at hS HQ hcur ⊢
                  refine wpAnyH_ready (rs := [5]) (by decide +kernel) (by simp) ?_
                  refine AllReadyH.cons rfl (fun K hK => ?_) AllReadyH.nil
                  go_simp
                  refine (HPu.out (by trivial) _ _ _ HQ.out).mono ?_
                  rintro e X2 ⟨Aq, cq, rfl, hown, hbn⟩
                  replace hS := Lib.hid (hS.out.call hbn)
                  have HR := Lib.hid (prs_of_own hown rfl)
                  clear hbn hown HQ
                  go_wp2_with fail
                  refine hK.out _ _ (hS.out.top 1) (fun hcur2 => ?_)
                  clear hK K
                  replace hcur := hcur2
                  (try dsimp only at hcur)
                  clear hcur2
                  (try simp only [Act.put, List.getElem_toArray, List.getElem_cons_zero, List.getElem_cons_succ, List.setIfInBounds_toArray, List.set_cons_zero, List.set_cons_succ])
                  refine wpAnyH_ready (rs := [6]) (by decide +kernel) (by simp) ?_
                  refine AllReadyH.cons rfl (fun K hK => ?_) AllReadyH.nil
                  have HBW := Lib.hid (And.intro (hS.out.lt (i := 1) rfl) (hS.out.lt (i := 2) rfl))
                  go_simp
                  refine (HOf.out (by trivial) _ _ _ (H00.out.up hS.out.below) HR.out).mono ?_
                  rintro e X3 ⟨A1, B1, C1, ca1, cb1, cc1, rfl, hl, hb⟩
                  replace hS := Lib.hid (hS.out.call hb)
                  clear hb HR
                  simp only [ndCells]
                  go_wp2_with fail
                  refine hK.out _ _ (hS.out.top 1) (fun hcur2 => ?_)
                  clear hK K
                  replace hcur := hcur2
                  (try dsimp only at hcur)
                  clear hcur2
                  (try simp only [Act.put, List.getElem_toArray, List.getElem_cons_zero, List.getElem_cons_succ, List.setIfInBounds_toArray, List.set_cons_zero, List.set_cons_succ])
                  refine wpAnyH_ready (rs := [8]) (by decide +kernel) (by simp) ?_
                  refine AllReadyH.cons rfl (fun K hK => ?_) AllReadyH.nil
                  obtain ⟨y0, y1, y2, y3, y4, y5, y6, y7, q0, q1, q2, q3, q4, q5, q6, q7⟩ := nd_facts (hS.out.has 2 _ _ rfl).1
                  go_simp
                  have hZ := And.intro (hS.out.store 2 rfl (.int .i64 level1) (.string nlow1) (.string high1) (.bool last1) (.int .i64 next1) (.slice A1 keys1.length ca1) (.slice B1 vals1.length cb1) (.slice C1 kids1.length cc1)) (hl.off (set8_off _ g7 (.int .i64 level1) (.string nlow1) (.string high1) (.bool last1) (.int .i64 next1) (.slice A1 keys1.length ca1) (.slice B1 vals1.length cb1) (.slice C1 kids1.length cc1)) (fun k q => by rw [q]; exact HBW.out.2))
                  simp only [set8] at hZ
                  clear y0 y1 y2 y3 y4 y5 y6 y7 q0 q1 q2 q3 q4 q5 q6 q7
                  replace hS := Lib.hid hZ.1
                  replace hl := hZ.2
                  clear hZ
                  simp only [List.cons_append, List.nil_append, List.set_cons_zero, List.set_cons_succ] at hS
                  refine hK.out _ _ (hS.out.top 1) (fun hcur2 => ?_)
                  clear hK K
                  replace hcur := hcur2
                  (try dsimp only at hcur)
                  clear hcur2
                  (try simp only [Act.put, List.getElem_toArray, List.getElem_cons_zero, List.getElem_cons_succ, List.setIfInBounds_toArray, List.set_cons_zero, List.set_cons_succ])
                  generalize World.setCell _ _ _ = X4 at hS hl hcur ⊢
                  refine wpAnyH_done (by decide +kernel) ?_ _
                  have HFF := Lib.hid (And.intro hS.out (hl.mono (B' := w.heap.size + 2) (by have := HBW.out.1; omega)))
                  clear hcur hl hS
                  go_wp2_with fail
                  go_meet
                  exact ⟨g7, A1, B1, C1, ca1, cb1, cc1, rfl, HFF⟩
              · go_simp
                have hba := below_alloc X (.cells #[.int .i64 0, .string ⟨#[]⟩, .string ⟨#[]⟩, .bool false, .int .i64 0, .slice none 0 0, .slice none 0 0, .slice none 0 0] 26)
                skip
                replace hS := Lib.hid (hS.out.alloc (.cells #[.int .i64 0, .string ⟨#[]⟩, .string ⟨#[]⟩, .bool false, .int .i64 0, .slice none 0 0, .slice none 0 0, .slice none 0 0] 26))
                simp only [List.cons_append, List.nil_append, List.set_cons_zero, List.set_cons_succ] at hS
                refine hK.out _ _ (hS.out.top 1) (fun hcur2 => ?_)
                clear hK K
                replace hcur := hcur2
                (try dsimp only at hcur)
                clear hcur2
                (try simp only [Act.put, List.getElem_toArray, List.getElem_cons_zero, List.getElem_cons_succ, List.setIfInBounds_toArray, List.set_cons_zero, List.set_cons_succ])
                clear hba
                generalize X.heap.size = g7 at hS ⊢
                generalize X.alloc _ = X9 at hS hcur ⊢
                refine wpAnyH_ready (rs := [2]) (by decide +kernel) (by simp) ?_
                refine AllReadyH.cons rfl (fun K hK => ?_) AllReadyH.nil
                go_simp
                refine (HPr.out _ (H00.out.up hS.out.below) (by trivial)).mono ?_
                rintro e X1 ⟨Ap, cp, rfl, hown, hbn⟩
                replace hS := Lib.hid (hS.out.call hbn)
                have HQ := Lib.hid (prs_of_own hown rfl)
                clear hbn hown
                go_wp2_with fail
                refine hK.out _ _ (hS.out.top 1) (fun hcur2 => ?_)
                clear hK K
                replace hcur := hcur2
                (try dsimp only at hcur)
                clear hcur2
                (try simp only [Act.put, List.getElem_toArray, List.getElem_cons_zero, List.getElem_cons_succ, List.setIfInBounds_toArray, List.set_cons_zero, List.set_cons_succ])
                refine wpAnyH_ready (rs := [5]) (by decide +kernel) (by simp) ?_
                refine AllReadyH.cons rfl (fun K hK => ?_) AllReadyH.nil
                go_simp
                refine (HPu.out (by trivial) _ _ _ HQ.out).mono ?_
                rintro e X2 ⟨Aq, cq, rfl, hown, hbn⟩
                replace hS := Lib.hid (hS.out.call hbn)
                have HR := Lib.hid (prs_of_own hown rfl)
                clear hbn hown HQ
                go_wp2_with fail
                refine hK.out _ _ (hS.out.top 1) (fun hcur2 => ?_)
                clear hK K
                replace hcur := hcur2
                (try dsimp only at hcur)
                clear hcur2
                (try simp only [Act.put, List.getElem_toArray, List.getElem_cons_zero, List.getElem_cons_succ, List.setIfInBounds_toArray, List.set_cons_zero, List.set_cons_succ])
                refine wpAnyH_ready (rs := [6]) (by decide +kernel) (by simp) ?_
                refine AllReadyH.cons rfl (fun K hK => ?_) AllReadyH.nil
                have HBW := Lib.hid (And.intro (hS.out.lt (i := 1) rfl) (hS.out.lt (i := 2) rfl))
                go_simp
                refine (HOf.out (by trivial) _ _ _ (H00.out.up hS.out.below) HR.out).mono ?_
                rintro e X3 ⟨A1, B1, C1, ca1, cb1, cc1, rfl, hl, hb⟩
                replace hS := Lib.hid (hS.out.call hb)
                clear hb HR
                simp only [ndCells]
                go_wp2_with fail
                refine hK.out _ _ (hS.out.top 1) (fun hcur2 => ?_)
                clear hK K
                replace hcur := hcur2
                (try dsimp only at hcur)
                clear hcur2
                (try simp only [Act.put, List.getElem_toArray, List.getElem_cons_zero, List.getElem_cons_succ, List.setIfInBounds_toArray, List.set_cons_zero, List.set_cons_succ])
                refine wpAnyH_ready (rs := [8]) (by decide +kernel) (by simp) ?_
                refine AllReadyH.cons rfl (fun K hK => ?_) AllReadyH.nil
                obtain ⟨y0, y1, y2, y3, y4, y5, y6, y7, q0, q1, q2, q3, q4, q5, q6, q7⟩ := nd_facts (hS.out.has 2 _ _ rfl).1
                go_simp
                have hZ := And.intro (hS.out.store 2 rfl (.int .i64 level1) (.string nlow1) (.string high1) (.bool last1) (.int .i64 next1) (.slice A1 keys1.length ca1) (.slice B1 vals1.length cb1) (.slice C1 kids1.length cc1)) (hl.off (set8_off _ g7 (.int .i64 level1) (.string nlow1) (.string high1) (.bool last1) (.int .i64 next1) (.slice A1 keys1.length ca1) (.slice B1 vals1.length cb1) (.slice C1 kids1.length cc1)) (fun k q => by rw [q]; exact HBW.out.2))
                simp only [set8] at hZ
                clear y0 y1 y2 y3 y4 y5 y6 y7 q0 q1 q2 q3 q4 q5 q6 q7
                replace hS := Lib.hid hZ.1
                replace hl := hZ.2
                clear hZ
                simp only [List.cons_append, List.nil_append, List.set_cons_zero, List.set_cons_succ] at hS
                refine hK.out _ _ (hS.out.top 1) (fun hcur2 => ?_)
                clear hK K
                replace hcur := hcur2
                (try dsimp only at hcur)
                clear hcur2
                (try simp only [Act.put, List.getElem_toArray, List.getElem_cons_zero, List.getElem_cons_succ, List.setIfInBounds_toArray, List.set_cons_zero, List.set_cons_succ])
                generalize World.setCell _ _ _ = X4 at hS hl hcur ⊢
                refine wpAnyH_done (by decide +kernel) ?_ _
                have HFF := Lib.hid (And.intro hS.out (hl.mono (B' := w.heap.size + 2) (by have := HBW.out.1; omega)))
                clear hcur hl hS
                go_wp2_with fail
                go_meet
                exact ⟨g7, A1, B1, C1, ca1, cb1, cc1, rfl, HFF⟩
            case rest =>
              obtain ⟨g7, A1, B1, C1, ca1, cb1, cc1, rfl, HFF⟩ := hcut
              clear hS
              have hS := Lib.hid HFF.out.1
              have HL := Lib.hid HFF.out.2
              clear HFF
              (try simp only [] at HO)
              obtain ⟨x0, x1, x2, x3, x4, x5, x6, x7, f0, f1, f2, f3, f4, f5, f6, f7⟩ := nd_facts (hS.out.has 2 _ _ rfl).1
              by_cases hlen : (keys1.length : Int) ≤ fan
              · have hlb : decide (fan < (keys1.length : Int)) = false := decide_eq_false (by omega)
                have ho := HO.out
                rw [if_pos hlen] at ho
                obtain rfl := ho
                clear hlen HO
                obtain ⟨y0, y1, y2, y3, y4, y5, y6, y7, q0, q1, q2, q3, q4, q5, q6, q7⟩ := nd_facts (hS.out.has 1 _ _ rfl).1
                have hZ := And.intro (hS.out.store 1 rfl (.int .i64 level1) (.string nlow1) (.string high1) (.bool last1) (.int .i64 next1) (.slice A1 keys1.length ca1) (.slice B1 vals1.length cb1) (.slice C1 kids1.length cc1)).below (HL.out.off (set8_off _ (w.heap.size + 1) (.int .i64 level1) (.string nlow1) (.string high1) (.bool last1) (.int .i64 next1) (.slice A1 keys1.length ca1) (.slice B1 vals1.length cb1) (.slice C1 kids1.length cc1)) (fun k q => by rw [q]; omega)).lies
                simp only [set8] at hZ
                have HFI := Lib.hid hZ
                clear hZ
                go_wp2_with fail
                exact bodyPost_ret (v := .tuple #[.agg #[.int .i64 level1, .string nlow1, .string high1, .bool last1, .int .i64 next1, .slice A1 keys1.length ca1, .slice B1 vals1.length cb1, .slice C1 kids1.length cc1], .bool true]) (by simp [results, Try.results30, go_sem, *]) rfl ⟨_, _, _, _, _, _, by simp [ndCells], HFI.out.2, HFI.out.1⟩
              · have hlb : decide (fan < (keys1.length : Int)) = true := decide_eq_true (by omega)
                obtain rfl : o = (false, zeroN) := by rw [HO.out, if_neg hlen]
                clear hlen HO
                obtain ⟨y0, y1, y2, y3, y4, y5, y6, y7, q0, q1, q2, q3, q4, q5, q6, q7⟩ := nd_facts (hS.out.has 1 _ _ rfl).1
                have hZ := (hS.out.store 1 rfl (.int .i64 0) (.string ⟨#[]⟩) (.string ⟨#[]⟩) (.bool false) (.int .i64 0) (.slice none 0 0) (.slice none 0 0) (.slice none 0 0)).below
                simp only [set8] at hZ
                have HZ := Lib.hid hZ
                clear hZ
                go_wp2_with fail
                exact bodyPost_ret (v := .tuple #[.agg #[.int .i64 0, .string ⟨#[]⟩, .string ⟨#[]⟩, .bool false, .int .i64 0, .slice none 0 0, .slice none 0 0, .slice none 0 0], .bool false]) (by simp [results, Try.results30, go_sem, *]) rfl ⟨none, none, none, 0, 0, 0, rfl, zero_lies _, HZ.out⟩

end Go.Proofs.Ytcoiadncennhpaa

namespace Go.Proofs.Ytcoiadncennhpaa
open Go.RowKit

def exN (n : Nat) : Nd := ⟨0, ByteArray.empty, ByteArray.empty, true, -1, (([⟨#[97]⟩, ⟨#[98]⟩, ⟨#[99]⟩, ⟨#[100]⟩] : List ByteArray).take n), ([1, 1, 1, 1] : List Int).take n, []⟩
def exK (n : Nat) : ByteArray := (([⟨#[97]⟩, ⟨#[98]⟩, ⟨#[99]⟩, ⟨#[100]⟩] : List ByteArray)).getD n ByteArray.empty
def exM : Nd := ⟨0, ByteArray.empty, ByteArray.empty, true, -1, [⟨#[97]⟩, ⟨#[98]⟩, ⟨#[99]⟩, ⟨#[100]⟩], [1, 7, 1, 1], []⟩
theorem ex_0 : withD (exN 0) (exK 0) 1 4 = (true, exN 1) := by kernel_rfl
theorem ex_1 : withD (exN 1) (exK 1) 1 4 = (true, exN 2) := by kernel_rfl
theorem ex_2 : withD (exN 2) (exK 2) 1 4 = (true, exN 3) := by kernel_rfl
theorem ex_3 : withD (exN 3) (exK 3) 1 4 = (true, exN 4) := by kernel_rfl
theorem ex_e : withD (exN 4) ⟨#[101]⟩ 1 4 = (false, zeroN) := by kernel_rfl
theorem ex_b : withD (exN 4) ⟨#[98]⟩ 7 4 = (true, exM) := by kernel_rfl
theorem ex_step (n : Nat) (h : n < 4) : withD (exN n) (exK n) 1 4 = (true, exN (n + 1)) := by
  match n, h with
  | 0, _ => exact ex_0
  | 1, _ => exact ex_1
  | 2, _ => exact ex_2
  | 3, _ => exact ex_3

end Go.Proofs.Ytcoiadncennhpaa

namespace Go.Proofs.Ytcoiadncennhpaa
open Go.RowKit

def exS : List ByteArray := [⟨#[97]⟩, ⟨#[98]⟩, ⟨#[99]⟩, ⟨#[100]⟩]
theorem exK_at (j : Nat) (h : j < 4) : exK j = exS[j]'h := by
  match j, h with
  | 0, _ => rfl
  | 1, _ => rfl
  | 2, _ => rfl
  | 3, _ => rfl
theorem exK_size (j : Nat) : (exK j).size ≤ maxLen := by
  match j with
  | 0 => decide
  | 1 => decide
  | 2 => decide
  | 3 => decide
  | j + 4 => simp [exK, maxLen]
/-- The example's node in its variable, and the texts. -/
structure Ex (w X : World) (g : Nat) (N : Nd) (A B C : Option Addr) (ca cb cc : Nat) : Prop where
  box : X.heap[g]? = some (.cells (ndCells N A B C ca cb cc) 26 (0, 0))
  txt : X.heap[g + 1]? = some (.cells (strs exS).toArray 9 (0, 0))
  lies : Lies X N A B C ca cb cc
  bel : Below w.heap.size w X
  ge : w.heap.size ≤ g
theorem Ex.up {w X X' : World} {g : Nat} {N : Nd} {A B C : Option Addr} {ca cb cc : Nat} (h : Ex w X g N A B C ca cb cc) (hb : Below X.heap.size X X') : Ex w X' g N A B C ca cb cc :=
  ⟨(hb.block _ (Array.getElem?_eq_some_iff.1 h.box).1).trans h.box, (hb.block _ (Array.getElem?_eq_some_iff.1 h.txt).1).trans h.txt, h.lies.up hb, below_of h.bel hb, h.ge⟩

set_option maxRecDepth 100000 in
set_option maxHeartbeats 8000000 in
theorem lives11_any (w : World) : Calls Try.prog 28 #[] w (Ret (.bool true) w) := by
  have HST := Lib.hid (fun (j : Nat) (hj : j < 4) (W : World) (A B C : Option Addr) (ca cb cc : Nat) (hW : Lies W (exN j) A B C ca cb cc) => (ex_step j hj) ▸ leafwith_any (exN j) (exK j) 1 4 A B C ca cb cc W hW (exK_size j))
  have HE := Lib.hid (fun (W : World) (A B C : Option Addr) (ca cb cc : Nat) (hW : Lies W (exN 4) A B C ca cb cc) => ex_e ▸ leafwith_any (exN 4) ⟨#[101]⟩ 1 4 A B C ca cb cc W hW (by decide))
  have HB := Lib.hid (fun (W : World) (A B C : Option Addr) (ca cb cc : Nat) (hW : Lies W (exN 4) A B C ca cb cc) => ex_b ▸ leafwith_any (exN 4) ⟨#[98]⟩ 7 4 A B C ca cb cc W hW (by decide))
  go_enter Try.func28, Try.ntmps28
  go_wp2_with fail
  refine (empty_any _).mono ?_
  rintro e W0 ⟨rfl, hb0⟩
  have hz : ndCells (exN 0) none none none 0 0 0 = #[.int .i64 0, .string ⟨#[]⟩, .string ⟨#[]⟩, .bool true, .int .i64 (-1), .slice none 0 0, .slice none 0 0, .slice none 0 0] := rfl
  have hs1 : (W0.alloc (.cells (ndCells (exN 0) none none none 0 0 0) 26)).heap.size = W0.heap.size + 1 := by simp
  have hba := below_alloc W0 (.cells (ndCells (exN 0) none none none 0 0 0) 26)
  have hbb := below_alloc (W0.alloc (.cells (ndCells (exN 0) none none none 0 0 0) 26)) (.cells (strs exS).toArray 9)
  have h1 := (hbb.block W0.heap.size (by rw [hs1]; omega)).trans (heap_alloc_new W0 _)
  have h2 := heap_alloc_new (W0.alloc (.cells (ndCells (exN 0) none none none 0 0 0) 26)) (.cells (strs exS).toArray 9)
  rw [hs1] at h2
  have hX := Lib.hid (show Ex w _ W0.heap.size (exN 0) none none none 0 0 0 from ⟨h1, h2, ⟨Rd.nil _ _ _ _, Rd.nil _ _ _ _, Rd.nil _ _ _ _, Nat.le_refl _, Nat.le_refl _, Nat.le_refl _, by decide, by decide, by decide, Nat.zero_le _, Nat.zero_le _, fun j hj => absurd hj (Nat.not_lt_zero _)⟩, below_of (below_of hb0 hba) hbb, hb0.size⟩)
  have hss : (strs exS).toArray = #[.string ⟨#[97]⟩, .string ⟨#[98]⟩, .string ⟨#[99]⟩, .string ⟨#[100]⟩] := rfl
  rw [hz, hss] at hX
  clear hz hss hs1 hba hbb h1 h2 hb0
  go_upto_region 2 with fail
  go_wp2_with fail
  generalize (W0.alloc _).alloc _ = X0 at hX ⊢
  generalize W0.heap.size = g at hX ⊢
  go_loopw [3, 4, 5, 13] (fun _ _ _ i wr => ∃ (j : Nat) (A B C : Option Addr) (ca cb cc : Nat), i = .int .i64 j ∧ Hid (j ≤ 4 ∧ Ex w wr g (exN j) A B C ca cb cc)) (fun _ _ _ i _ => 4 - (intOf i).toNat)
  case atStart => exact ⟨0, none, none, none, 0, 0, 0, rfl, Nat.zero_le _, hX.out⟩
  case round =>
    obtain ⟨j, A, B, C, ca, cb, cc, rfl, H⟩ := hrel
    by_cases hlt : j < 4
    · have hlt2 : (j : Int) < 4 := by omega
      have ct : wr.cell? ⟨g + 1, j, none⟩ = some (.string (exK j)) := (cell_of_row wr (g + 1) j _ _ _ H.out.2.txt).trans (by rw [exK_at j hlt]; have h4 : j < exS.length := hlt; simp [strs, h4]; rfl)
      have HC := Lib.hid (fun W A B C ca cb cc hW => HST.out j hlt W A B C ca cb cc hW)
      have HEX := Lib.hid H.out.2
      generalize hN1 : exN (j + 1) = N1 at HC
      have HN1 := Lib.hid hN1
      generalize exN j = N at HC HEX
      generalize exK j = kj at HC ct
      clear hN1 H
      obtain ⟨level, low, high, last, next, keys, vals, kids⟩ := N
      obtain ⟨level', low', high', last', next', keys', vals', kids'⟩ := N1
      have hbx := HEX.out.box
      simp only [ndCells] at hbx HC
      obtain ⟨x0, x1, x2, x3, x4, x5, x6, x7, -, -, -, -, -, -, -, -⟩ := nd_facts hbx
      clear hbx
      go_wp2_with fail
      refine (HC.out _ A B C ca cb cc HEX.out.lies).mono ?_
      rintro e W1 ⟨A', B', C', ca', cb', cc', rfl, hl1, hb1, hfa, hfb⟩
      have hgl := (Array.getElem?_eq_some_iff.1 HEX.out.box).1
      have HFR := Lib.hid (And.intro (fun (a : Addr) (e : A' = some a) => (show a.block ≠ g by have := hfa a e; omega)) (fun (a : Addr) (e : B' = some a) => (show a.block ≠ g by have := hfb a e; omega)))
      have hk0 : kids'.length = 0 := by have e := congrArg (fun d : Nd => d.kids.length) HN1.out; exact e.symm
      have HK0 := Lib.hid hk0
      clear hk0
      have HE1 := Lib.hid (And.intro (HEX.out.up hb1) hl1)
      clear hb1 hl1 x0 x1 x2 x3 x4 x5 x6 x7 ct HEX hfa hfb hgl
      have hba := below_alloc W1 (.cells (ndCells ⟨level', low', high', last', next', keys', vals', kids'⟩ A' B' C' ca' cb' cc') 26)
      have H2 := Lib.hid (And.intro (HE1.out.1.up hba) (And.intro (HE1.out.2.up hba) (heap_alloc_new W1 (.cells (ndCells ⟨level', low', high', last', next', keys', vals', kids'⟩ A' B' C' ca' cb' cc') 26))))
      clear hba HE1
      simp only [ndCells] at H2 ⊢
      go_upto_region 6 with fail
      generalize W1.alloc _ = W2 at H2 ⊢
      generalize W1.heap.size = g4 at H2 ⊢
      have hbx := H2.out.1.box
      have hby := H2.out.2.2
      simp only [ndCells] at hbx
      obtain ⟨x0, x1, x2, x3, x4, x5, x6, x7, f0, f1, f2, f3, f4, f5, f6, f7⟩ := nd_facts hbx
      obtain ⟨y0, y1, y2, y3, y4, y5, y6, y7, -, -, -, -, -, -, -, -⟩ := nd_facts hby
      have h8 := set8_heap hbx (.int .i64 level') (.string low') (.string high') (.bool last') (.int .i64 next') (.slice A' keys'.length ca') (.slice B' vals'.length cb') (.slice C' kids'.length cc')
      have ho := set8_off W2 g (.int .i64 level') (.string low') (.string high') (.bool last') (.int .i64 next') (.slice A' keys'.length ca') (.slice B' vals'.length cb') (.slice C' kids'.length cc')
      have hge := H2.out.1.ge
      have htx := (ho.block (g + 1) (Array.getElem?_eq_some_iff.1 H2.out.1.txt).1 (by omega)).trans H2.out.1.txt
      have hbl := ho.below H2.out.1.bel H2.out.1.bel.size (fun q hq e => by omega)
      have hl8 := lies_off H2.out.2.1 ho HFR.out.1 HFR.out.2 (.inl HK0.out)
      have HNX := Lib.hid (show Ex w _ g ⟨level', low', high', last', next', keys', vals', kids'⟩ A' B' C' ca' cb' cc' from ⟨h8, htx, hl8, hbl, hge⟩)
      simp only [set8] at HNX
      clear hbx hby h8 ho hge htx hbl hl8 H2 HC HFR HK0
      go_wp2_with fail
      go_roundw
      case rel =>
        refine ⟨j + 1, A', B', C', ca', cb', cc', by go_num, by omega, ?_⟩
        rw [HN1.out]
        exact HNX.out
      case measure => simp [intOf]; omega
    · have hj : j = 4 := by have := H.out.1; omega
      subst hj
      have HEX := Lib.hid H.out.2
      have hv4 : (exN 4).vals.length = 4 := rfl
      have hbx := HEX.out.box
      simp only [ndCells] at hbx
      have HE1 := Lib.hid (HE.out)
      clear H HST HE hlt
      have hN4 : exN 4 = ⟨0, ByteArray.empty, ByteArray.empty, true, -1, [⟨#[97]⟩, ⟨#[98]⟩, ⟨#[99]⟩, ⟨#[100]⟩], [1, 1, 1, 1], []⟩ := rfl
      rw [hN4] at hbx HE1 HB HEX
      have hM : exM = ⟨0, ByteArray.empty, ByteArray.empty, true, -1, [⟨#[97]⟩, ⟨#[98]⟩, ⟨#[99]⟩, ⟨#[100]⟩], [1, 7, 1, 1], []⟩ := rfl
      rw [hM] at HB
      clear hN4 hM hv4
      simp only [ndCells, List.length_cons, List.length_nil, Nat.zero_add, Nat.reduceAdd] at hbx HE1 HB
      obtain ⟨x0, x1, x2, x3, x4, x5, x6, x7, -, -, -, -, -, -, -, -⟩ := nd_facts hbx
      clear hbx
      go_wp2_with fail
      refine (HE1.out _ A B C ca cb cc HEX.out.lies).mono ?_
      rintro e W1 ⟨A', B', C', ca', cb', cc', rfl, hl1, hb1, -, -⟩
      have hba := below_alloc W1 (.cells (ndCells zeroN A' B' C' ca' cb' cc') 26)
      have HX2 := Lib.hid ((HEX.out.up hb1).up hba)
      clear hb1 hl1 hba x0 x1 x2 x3 x4 x5 x6 x7 HE1
      simp only [ndCells] at HX2 ⊢
      go_upto_region 11 with fail
      generalize W1.alloc _ = W2 at HX2 ⊢
      have hbx := HX2.out.box
      simp only [ndCells, List.length_cons, List.length_nil, Nat.zero_add, Nat.reduceAdd] at hbx
      obtain ⟨x0, x1, x2, x3, x4, x5, x6, x7, -, -, -, -, -, -, -, -⟩ := nd_facts hbx
      clear hbx
      go_wp2_with fail
      refine (HB.out _ A B C ca cb cc HX2.out.lies).mono ?_
      rintro e W3 ⟨A3, B3, C3, ca3, cb3, cc3, rfl, hl3, hb3, -, -⟩
      have hba := below_alloc W3 (.cells (ndCells ⟨0, ByteArray.empty, ByteArray.empty, true, -1, [⟨#[97]⟩, ⟨#[98]⟩, ⟨#[99]⟩, ⟨#[100]⟩], [1, 7, 1, 1], []⟩ A3 B3 C3 ca3 cb3 cc3) 26)
      have H4 := Lib.hid (And.intro ((HX2.out.up hb3).up hba) (And.intro (hl3.up hba) (heap_alloc_new W3 (.cells (ndCells ⟨0, ByteArray.empty, ByteArray.empty, true, -1, [⟨#[97]⟩, ⟨#[98]⟩, ⟨#[99]⟩, ⟨#[100]⟩], [1, 7, 1, 1], []⟩ A3 B3 C3 ca3 cb3 cc3) 26))))
      clear hba hb3 hl3 HX2 x0 x1 x2 x3 x4 x5 x6 x7 HB
      simp only [ndCells, List.length_cons, List.length_nil, Nat.zero_add, Nat.reduceAdd] at H4 ⊢
      go_upto_region 12 with fail
      generalize W3.alloc _ = W4 at H4 ⊢
      generalize W3.heap.size = g8 at H4 ⊢
      have hbx := H4.out.1.box
      have hby := H4.out.2.2
      simp only [ndCells, List.length_cons, List.length_nil, Nat.zero_add, Nat.reduceAdd] at hbx
      obtain ⟨x0, x1, x2, x3, x4, x5, x6, x7, -, -, -, -, -, -, -, -⟩ := nd_facts hbx
      obtain ⟨y0, y1, y2, y3, y4, y5, y6, y7, -, -, -, -, -, -, -, -⟩ := nd_facts hby
      obtain ⟨b1, off1, rfl, hbl1, hc1⟩ := H4.out.1.lies.vals.spot (by decide)
      obtain ⟨b2, off2, rfl, hbl2, hc2⟩ := H4.out.2.1.vals.spot (by decide)
      have d1 : W4.cell? ⟨b1, off1 + 1, none⟩ = some (.int .u64 1) := hc1 1 (by decide)
      have d2 : W4.cell? ⟨b2, off2 + 1, none⟩ = some (.int .u64 7) := hc2 1 (by decide)
      have HF := Lib.hid H4.out.1.bel
      clear hbx hby hc1 hc2 H4
      go_wp2_with fail
      go_ret
      exact ⟨rfl, HF.out⟩

end Go.Proofs.Ytcoiadncennhpaa

namespace Go.Proofs.Ytcoiadncennhpaa
open Go.RowKit

/-- Nodes that lie in memory. -/
def LL (W : World) (L : List (Nd × Option Addr × Option Addr × Option Addr × Nat × Nat × Nat)) : Prop :=
  ∀ (i : Nat) (d : Nd) (A B C : Option Addr) (ca cb cc : Nat), L[i]? = some (d, A, B, C, ca, cb, cc) → Lies W d A B C ca cb cc
theorem LL.start (W : World) : LL W [] := fun i d A B C ca cb cc q => by simp at q
theorem LL.up {W W' : World} {L : List (Nd × Option Addr × Option Addr × Option Addr × Nat × Nat × Nat)} (h : LL W L) (hb : Below W.heap.size W W') : LL W' L := fun i d A B C ca cb cc q => (h i d A B C ca cb cc q).up hb
theorem LL.add {W : World} {L : List (Nd × Option Addr × Option Addr × Option Addr × Nat × Nat × Nat)} (h : LL W L) {d : Nd} {A B C : Option Addr} {ca cb cc : Nat} (hl : Lies W d A B C ca cb cc) : LL W (L ++ [(d, A, B, C, ca, cb, cc)]) := by
  intro i d' A' B' C' ca' cb' cc' q
  rcases Nat.lt_or_ge i L.length with g | g
  · rw [List.getElem?_append_left g] at q
    exact h _ _ _ _ _ _ _ _ q
  · rw [List.getElem?_append_right g] at q
    rcases hz : i - L.length with _ | m
    · rw [hz] at q
      injection q with q
      injection q with q1 q
      injection q with q2 q
      injection q with q3 q
      injection q with q4 q
      injection q with q5 q
      injection q with q6 q
      subst q1; subst q2; subst q3; subst q4; subst q5; subst q6; subst q
      exact hl
    · rw [hz] at q
      simp at q

set_option maxRecDepth 100000 in
set_option maxHeartbeats 16000000 in
theorem leafsturn_any (d : Nd) (k : ByteArray) (v fan : Int) (A B C : Option Addr) (ca cb cc : Nat) (w : World) (h : Lies w d A B C ca cb cc) (hk : k.size ≤ maxLen) :
    Calls Try.prog 6 #[.agg (ndCells d A B C ca cb cc), .string k, .int .u64 v, .int .i64 fan] w (Ret (.bool true) w) := by
  have hS := Lib.hid ((Sx.start0 w).alloc (.cells (ndCells d A B C ca cb cc) 26))
  have H00 := Lib.hid h
  have HLi := Lib.hid (fun W hW => lightN_any d A B C ca cb cc W hW)
  have hks : k.size ≤ 9223372036854775807 := hk
  have HK := Lib.hid hk
  clear h hk
  cases hli : lightN d
  · rw [hli] at HLi
    clear hli
    obtain ⟨level, nlow, high, last, next, keys, vals, kids⟩ := d
    simp only [ndCells, List.nil_append] at hS HLi ⊢
    go_enter Try.func6, Try.ntmps6
    go_upto_region 1 with fail
    generalize w.alloc _ = W at hS ⊢
    obtain ⟨x0, x1, x2, x3, x4, x5, x6, x7, f0, f1, f2, f3, f4, f5, f6, f7⟩ := nd_facts (hS.out.has 0 _ _ rfl).1
    go_wp2_with fail
    refine (HLi.out _ (H00.out.up hS.out.below)).mono ?_
    rintro e wn ⟨rfl, hbn⟩
    clear x0 x1 x2 x3 x4 x5 x6 x7 f0 f1 f2 f3 f4 f5 f6 f7
    replace hS := Lib.hid (hS.out.call hbn)
    clear hbn
    obtain ⟨x0, x1, x2, x3, x4, x5, x6, x7, f0, f1, f2, f3, f4, f5, f6, f7⟩ := nd_facts (hS.out.has 0 _ _ rfl).1
    go_wp2_with fail
    refine (lives11_any _).mono ?_
    rintro e wn2 ⟨rfl, hbn⟩
    go_wp2_with fail
    go_ret
    exact ⟨rfl, (hS.out.call hbn).below⟩
  · rw [hli] at HLi
    have HLen := Lib.hid (lightN_spec hli)
    clear hli
    by_cases hk100 : 100 < k.size
    · have hk100' : decide ((100 : Int) < (k.size : Int)) = true := decide_eq_true (by omega)
      clear hk100
      obtain ⟨level, nlow, high, last, next, keys, vals, kids⟩ := d
      simp only [ndCells, List.nil_append] at hS HLi ⊢
      go_enter Try.func6, Try.ntmps6
      go_upto_region 1 with fail
      generalize w.alloc _ = W at hS ⊢
      obtain ⟨x0, x1, x2, x3, x4, x5, x6, x7, f0, f1, f2, f3, f4, f5, f6, f7⟩ := nd_facts (hS.out.has 0 _ _ rfl).1
      go_wp2_with fail
      refine (HLi.out _ (H00.out.up hS.out.below)).mono ?_
      rintro e wn ⟨rfl, hbn⟩
      clear x0 x1 x2 x3 x4 x5 x6 x7 f0 f1 f2 f3 f4 f5 f6 f7
      replace hS := Lib.hid (hS.out.call hbn)
      clear hbn
      obtain ⟨x0, x1, x2, x3, x4, x5, x6, x7, f0, f1, f2, f3, f4, f5, f6, f7⟩ := nd_facts (hS.out.has 0 _ _ rfl).1
      go_wp2_with fail
      refine (lives11_any _).mono ?_
      rintro e wn2 ⟨rfl, hbn⟩
      go_wp2_with fail
      go_ret
      exact ⟨rfl, (hS.out.call hbn).below⟩
    · have hk100' : decide ((100 : Int) < (k.size : Int)) = false := decide_eq_false (by omega)
      clear hk100
      have HCl := Lib.hid (fun W (hW : Lies W d A B C ca cb cc) => cloneN_any d A B C ca cb cc W hW (by have := HLen.out; omega) (by have := HLen.out; omega) (by have := HLen.out; omega))
      have HWi := Lib.hid (fun W hW => leafwith_any d k v fan A B C ca cb cc W hW HK.out)
      have HWo := Lib.hid (fun W hW => leafcut_any d k A B C ca cb cc W hW HK.out)
      have HWiR := Lib.hid (fun A' B' C' ca' cb' cc' W hW => refwith_any d k v fan A' B' C' ca' cb' cc' W hW HK.out)
      have HWoR := Lib.hid (fun A' B' C' ca' cb' cc' W hW => refwithout_any d k A' B' C' ca' cb' cc' W hW)
      have HSM := Lib.hid (fun (o : Nd) (A B C A' B' C' : Option Addr) (ca cb cc ca' cb' cc' : Nat) (W : World) h k => Ret.to (refsameN_any o o A B C A' B' C' ca cb cc ca' cb' cc' W h k) (congrArg Value.bool (sameB_self o)))
      generalize withD d k v fan = o1 at HWi HWiR
      generalize withoutD d k = o2 at HWo HWoR
      obtain ⟨ok1, level1, nlow1, high1, last1, next1, keys1, vals1, kids1⟩ := o1
      obtain ⟨ok2, level2, nlow2, high2, last2, next2, keys2, vals2, kids2⟩ := o2
      obtain ⟨level, nlow, high, last, next, keys, vals, kids⟩ := d
      simp only [ndCells] at HCl HWi HWo HWiR HWoR HSM
      simp only [ndCells, List.nil_append] at hS HLi ⊢
      go_enter Try.func6, Try.ntmps6
      go_upto_region 1 with fail
      generalize w.alloc _ = W at hS ⊢
      obtain ⟨x0, x1, x2, x3, x4, x5, x6, x7, f0, f1, f2, f3, f4, f5, f6, f7⟩ := nd_facts (hS.out.has 0 _ _ rfl).1
      go_wp2_with fail
      refine (HLi.out _ (H00.out.up hS.out.below)).mono ?_
      rintro e wn ⟨rfl, hbn⟩
      clear x0 x1 x2 x3 x4 x5 x6 x7 f0 f1 f2 f3 f4 f5 f6 f7
      replace hS := Lib.hid (hS.out.call hbn)
      clear hbn
      obtain ⟨x0, x1, x2, x3, x4, x5, x6, x7, f0, f1, f2, f3, f4, f5, f6, f7⟩ := nd_facts (hS.out.has 0 _ _ rfl).1
      go_wp2_with fail
      refine (HCl.out _ (H00.out.up hS.out.below)).mono ?_
      rintro e X ⟨c1, c2, c3, rfl, r1, r2, r3, n12, n13, n23, m1, m2, m3, hbn⟩
      clear x0 x1 x2 x3 x4 x5 x6 x7 f0 f1 f2 f3 f4 f5 f6 f7
      replace hS := Lib.hid (hS.out.rows (d := ⟨level, nlow, high, last, next, keys, vals, kids⟩) r1 r2 r3 n12 n13 n23 m1 m2 m3 hbn)
      clear r1 r2 r3 n12 n13 n23 m1 m2 m3 hbn hk100' HCl
      replace hS := Lib.hid (hS.out.alloc (.cells (ndCells ⟨level, nlow, high, last, next, keys, vals, kids⟩ (some ⟨c1, 0, none⟩) (some ⟨c2, 0, none⟩) (some ⟨c3, 0, none⟩) keys.length vals.length kids.length) 26))
      simp only [rows3, ndCells, List.cons_append, List.nil_append] at hS ⊢
      go_upto_region 4 with fail
      generalize X.alloc _ = Y at hS ⊢
      generalize X.heap.size = g0 at hS ⊢
      have HL := Lib.hid ((LL.start Y).add (d := ⟨level, nlow, high, last, next, keys, vals, kids⟩) (A := some ⟨c1, 0, none⟩) (B := some ⟨c2, 0, none⟩) (C := some ⟨c3, 0, none⟩) (ca := keys.length) (cb := vals.length) (cc := kids.length)
        { low := H00.out.low, high := H00.out.high, fit := H00.out.fit, la := H00.out.la, lb := H00.out.lb, lc := H00.out.lc
          keys := by have := Rd.new (hS.out.has 1 _ _ rfl).1; rw [strs_length] at this; exact this
          vals := by have := Rd.new (hS.out.has 2 _ _ rfl).1; rw [u64s_length] at this; exact this
          kids := by have := Rd.new (hS.out.has 3 _ _ rfl).1; rw [i64s_length] at this; exact this
          ka := Nat.le_refl _, kb := Nat.le_refl _, kc := Nat.le_refl _ })
      simp only [List.nil_append] at HL
      obtain ⟨x0, x1, x2, x3, x4, x5, x6, x7, f0, f1, f2, f3, f4, f5, f6, f7⟩ := nd_facts (hS.out.has 0 _ _ rfl).1
      go_wp2_with fail
      refine (HWi.out _ (H00.out.up hS.out.below)).mono ?_
      rintro e X1 ⟨A1, B1, C1, ca1, cb1, cc1, rfl, hl, hb, -, -⟩
      clear x0 x1 x2 x3 x4 x5 x6 x7 f0 f1 f2 f3 f4 f5 f6 f7
      replace hS := Lib.hid ((hS.out.call hb).alloc (.cells (ndCells ⟨level1, nlow1, high1, last1, next1, keys1, vals1, kids1⟩ A1 B1 C1 ca1 cb1 cc1) 26))
      replace HL := Lib.hid (((HL.out.up hb).add hl).up (below_alloc X1 (.cells (ndCells ⟨level1, nlow1, high1, last1, next1, keys1, vals1, kids1⟩ A1 B1 C1 ca1 cb1 cc1) 26)))
      clear hl hb
      simp only [List.cons_append, List.nil_append, ndCells] at hS HL ⊢
      go_upto_region 5 with fail
      generalize X1.heap.size = g1 at hS ⊢
      generalize X1.alloc _ = Y1 at hS HL ⊢
      obtain ⟨x0, x1, x2, x3, x4, x5, x6, x7, f0, f1, f2, f3, f4, f5, f6, f7⟩ := nd_facts (hS.out.has 4 _ _ rfl).1
      go_wp2_with fail
      refine (HWiR.out _ _ _ _ _ _ _ (HL.out 0 _ _ _ _ _ _ _ rfl)).mono ?_
      rintro e X4 ⟨A4, B4, C4, ca4, cb4, cc4, rfl, hl, hb⟩
      clear x0 x1 x2 x3 x4 x5 x6 x7 f0 f1 f2 f3 f4 f5 f6 f7
      replace hS := Lib.hid ((hS.out.call hb).alloc (.cells (ndCells ⟨level1, nlow1, high1, last1, next1, keys1, vals1, kids1⟩ A4 B4 C4 ca4 cb4 cc4) 26))
      replace HL := Lib.hid (((HL.out.up hb).add hl).up (below_alloc X4 (.cells (ndCells ⟨level1, nlow1, high1, last1, next1, keys1, vals1, kids1⟩ A4 B4 C4 ca4 cb4 cc4) 26)))
      clear hl hb
      simp only [List.cons_append, List.nil_append, ndCells] at hS HL ⊢
      go_upto_region 6 with fail
      generalize X4.heap.size = g4 at hS ⊢
      generalize X4.alloc _ = Y4 at hS HL ⊢
      obtain ⟨x0, x1, x2, x3, x4, x5, x6, x7, f0, f1, f2, f3, f4, f5, f6, f7⟩ := nd_facts (hS.out.has 0 _ _ rfl).1
      go_wp2_with fail
      refine (HWo.out _ (H00.out.up hS.out.below)).mono ?_
      rintro e X2 ⟨A2, B2, C2, ca2, cb2, cc2, rfl, hl, hb, -, -⟩
      clear x0 x1 x2 x3 x4 x5 x6 x7 f0 f1 f2 f3 f4 f5 f6 f7
      replace hS := Lib.hid ((hS.out.call hb).alloc (.cells (ndCells ⟨level2, nlow2, high2, last2, next2, keys2, vals2, kids2⟩ A2 B2 C2 ca2 cb2 cc2) 26))
      replace HL := Lib.hid (((HL.out.up hb).add hl).up (below_alloc X2 (.cells (ndCells ⟨level2, nlow2, high2, last2, next2, keys2, vals2, kids2⟩ A2 B2 C2 ca2 cb2 cc2) 26)))
      clear hl hb
      simp only [List.cons_append, List.nil_append, ndCells] at hS HL ⊢
      go_upto_region 7 with fail
      generalize X2.heap.size = g2 at hS ⊢
      generalize X2.alloc _ = Y2 at hS HL ⊢
      obtain ⟨x0, x1, x2, x3, x4, x5, x6, x7, f0, f1, f2, f3, f4, f5, f6, f7⟩ := nd_facts (hS.out.has 4 _ _ rfl).1
      go_wp2_with fail
      refine (HWoR.out _ _ _ _ _ _ _ (HL.out 0 _ _ _ _ _ _ _ rfl)).mono ?_
      rintro e X5 ⟨A5, B5, C5, ca5, cb5, cc5, rfl, hl, hb⟩
      clear x0 x1 x2 x3 x4 x5 x6 x7 f0 f1 f2 f3 f4 f5 f6 f7
      replace hS := Lib.hid ((hS.out.call hb).alloc (.cells (ndCells ⟨level2, nlow2, high2, last2, next2, keys2, vals2, kids2⟩ A5 B5 C5 ca5 cb5 cc5) 26))
      replace HL := Lib.hid (((HL.out.up hb).add hl).up (below_alloc X5 (.cells (ndCells ⟨level2, nlow2, high2, last2, next2, keys2, vals2, kids2⟩ A5 B5 C5 ca5 cb5 cc5) 26)))
      clear hl hb
      simp only [List.cons_append, List.nil_append, ndCells] at hS HL ⊢
      go_upto_region 8 with fail
      generalize X5.heap.size = g5 at hS ⊢
      generalize X5.alloc _ = Y5 at hS HL ⊢
      clear HWi HWiR HWo HWoR
      have b1 : (ok1 == ok1) = true := by simp
      have b2 : (ok2 == ok2) = true := by simp
      obtain ⟨x0, x1, x2, x3, x4, x5, x6, x7, f0, f1, f2, f3, f4, f5, f6, f7⟩ := nd_facts (hS.out.has 5 _ _ rfl).1
      obtain ⟨y0, y1, y2, y3, y4, y5, y6, y7, q0, q1, q2, q3, q4, q5, q6, q7⟩ := nd_facts (hS.out.has 6 _ _ rfl).1
      go_wp2_with fail
      refine (HSM.out ⟨level1, nlow1, high1, last1, next1, keys1, vals1, kids1⟩ A1 B1 C1 A4 B4 C4 ca1 cb1 cc1 ca4 cb4 cc4 _ (HL.out 1 _ _ _ _ _ _ _ rfl) (HL.out 2 _ _ _ _ _ _ _ rfl)).mono ?_
      rintro e wn ⟨rfl, hbn⟩
      clear x0 x1 x2 x3 x4 x5 x6 x7 f0 f1 f2 f3 f4 f5 f6 f7
      clear y0 y1 y2 y3 y4 y5 y6 y7 q0 q1 q2 q3 q4 q5 q6 q7
      replace hS := Lib.hid (hS.out.call hbn)
      replace HL := Lib.hid (HL.out.up hbn)
      clear hbn
      obtain ⟨x0, x1, x2, x3, x4, x5, x6, x7, f0, f1, f2, f3, f4, f5, f6, f7⟩ := nd_facts (hS.out.has 7 _ _ rfl).1
      obtain ⟨y0, y1, y2, y3, y4, y5, y6, y7, q0, q1, q2, q3, q4, q5, q6, q7⟩ := nd_facts (hS.out.has 8 _ _ rfl).1
      go_wp2_with fail
      refine (HSM.out ⟨level2, nlow2, high2, last2, next2, keys2, vals2, kids2⟩ A2 B2 C2 A5 B5 C5 ca2 cb2 cc2 ca5 cb5 cc5 _ (HL.out 3 _ _ _ _ _ _ _ rfl) (HL.out 4 _ _ _ _ _ _ _ rfl)).mono ?_
      rintro e wn ⟨rfl, hbn⟩
      clear x0 x1 x2 x3 x4 x5 x6 x7 f0 f1 f2 f3 f4 f5 f6 f7
      clear y0 y1 y2 y3 y4 y5 y6 y7 q0 q1 q2 q3 q4 q5 q6 q7
      replace hS := Lib.hid (hS.out.call hbn)
      replace HL := Lib.hid (HL.out.up hbn)
      clear hbn
      obtain ⟨x0, x1, x2, x3, x4, x5, x6, x7, f0, f1, f2, f3, f4, f5, f6, f7⟩ := nd_facts (hS.out.has 0 _ _ rfl).1
      obtain ⟨y0, y1, y2, y3, y4, y5, y6, y7, q0, q1, q2, q3, q4, q5, q6, q7⟩ := nd_facts (hS.out.has 4 _ _ rfl).1
      go_wp2_with fail
      refine (HSM.out ⟨level, nlow, high, last, next, keys, vals, kids⟩ A B C (some ⟨c1, 0, none⟩) (some ⟨c2, 0, none⟩) (some ⟨c3, 0, none⟩) ca cb cc keys.length vals.length kids.length _ (H00.out.up hS.out.below) (HL.out 0 _ _ _ _ _ _ _ rfl)).mono ?_
      rintro e wn ⟨rfl, hbn⟩
      clear x0 x1 x2 x3 x4 x5 x6 x7 f0 f1 f2 f3 f4 f5 f6 f7
      clear y0 y1 y2 y3 y4 y5 y6 y7 q0 q1 q2 q3 q4 q5 q6 q7
      replace hS := Lib.hid (hS.out.call hbn)
      replace HL := Lib.hid (HL.out.up hbn)
      clear hbn
      go_wp2_with fail
      refine (lives11_any _).mono ?_
      rintro e wn4 ⟨rfl, hbn⟩
      go_wp2_with fail
      go_ret
      exact ⟨rfl, (hS.out.call hbn).below⟩
theorem leafsturn_row (d : Nd) (A B C : Option Addr) (ca cb cc : Nat) (k : ByteArray) (v fan : Int) (w : World) (h : Lies w d A B C ca cb cc) (_ : Bnd d) (hk : k.size ≤ maxLen) (_ : 0 ≤ v ∧ v ≤ 18446744073709551615) (_ : -9223372036854775808 ≤ fan ∧ fan ≤ 9223372036854775807) :
    Calls Try.prog 6 #[.agg (ndCells d A B C ca cb cc), .string k, .int .u64 v, .int .i64 fan] w (Ret (.bool true) w) := leafsturn_any d k v fan A B C ca cb cc w h hk

end Go.Proofs.Ytcoiadncennhpaa
