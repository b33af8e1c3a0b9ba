/- The law OpReads: the walk. -/
import Derived.Test.YthbafbgnclpbpaaOp16
import Derived.Test.YthbafbgnclpbpaaROp
import Derived.Test.YthbafbgnclpbpaaOpWrites
namespace Go.Proofs.Ythbafbgnclpbpaa
open Go.RowKit

theorem ret_still {P : Program} {f : FuncId} {a : Array Value} {w : World} {v : Value} (h : Calls P f a w fun e w' => e = .returned v ∧ w' = w) : Calls P f a w (Ret v w) := by
  refine h.mono ?_
  rintro e w' ⟨rfl, rfl⟩
  exact ⟨rfl, Below.refl _ _⟩
theorem reye_new {w : World} {A : Option Addr} {c : Nat} {l : List Nat} (h : Rd w w.heap.size 1 A l.length (u8s l)) (hc : l.length ≤ c) : REye (w.alloc (.cells #[.slice A l.length c, .int .i64 0] 78)) w.heap.size (srcOf A l) l 0 := by
  have hbl := below_alloc w (.cells #[.slice A l.length c, .int .i64 0] 78)
  refine ⟨?_, A, c, heap_alloc_new w _, hc, fun h0 => ?_⟩
  · unfold srcOf
    split
    · simp
    · obtain ⟨b, off, rfl, hb, _⟩ := h.2 (by omega)
      simp; omega
  · obtain ⟨b, off, rfl, hb, hcell⟩ := h.2 (by omega)
    refine ⟨b, off, rfl, by unfold srcOf; rw [if_neg (by omega)]; rfl, by simp; omega, fun j u hu => ?_⟩
    rw [hbl.cell (p := ⟨b, off + j, none⟩) hb]
    exact hcell j u hu
theorem reye_cells {w : World} {ep : Nat} {sb : Option Nat} {l : List Nat} {f : Int} (h : REye w ep sb l f) : ∃ A c, w.cell? ⟨ep, 0, none⟩ = some (.slice A l.length c) ∧ w.cell? ⟨ep, 1, none⟩ = some (.int .i64 f) := by
  obtain ⟨_, A, c, hb, _, _⟩ := h
  obtain ⟨c0, c1, _, _⟩ := reye_set hb
  exact ⟨A, c, c0, c1⟩

set_option maxRecDepth 100000 in
set_option maxHeartbeats 16000000 in
theorem opreadslaw_any (A : Option Addr) (c : Nat) (l : List Nat) (w : World) (h : Rd w w.heap.size 1 A l.length (u8s l)) (hx : ∀ x ∈ l, x < 256) (hc : l.length ≤ c) (hl : l.length ≤ 9223372036854775807) :
    Calls Try.prog 11 #[.slice A l.length c] w (Ret (.bool true) w) := by
  by_cases h1000 : 1000 < l.length
  · have h1000' : (1000 : Int) < (l.length : Int) := by omega
    go_enter Try.func11, Try.ntmps11
    go_wp2_with fail
    refine (lives16_any _).mono ?_
    rintro e w2 ⟨rfl, hb2⟩
    go_wp2_with fail
    go_ret
    exact ⟨rfl, hb2⟩
  · have h1000' : ¬ (1000 : Int) < (l.length : Int) := by omega
    have HC := Lib.hid hc
    have HR := Lib.hid h
    have HX := Lib.hid hx
    have HL := Lib.hid (Nat.not_lt.1 h1000)
    have Hsl := Lib.hid (srcOf_lt h)
    clear hc h hx h1000
    go_enter Try.func11, Try.ntmps11
    go_wp2_with fail
    refine (eyelook_any A c l w HR.out HC.out).mono ?_
    rintro e w1 ⟨rfl, hE, hb1⟩
    have hba := below_alloc w1 (.cells #[.slice A l.length c, .int .i64 0] 78)
    have hR := reye_new (c := c) (HR.out.up hb1) HC.out
    have hlt := hE.lt
    have hsz : w1.heap.size < (w1.alloc (.cells #[.slice A l.length c, .int .i64 0] 78)).heap.size := by simp
    have H4 := Lib.hid (And.intro (hE.below hba) (And.intro hR (And.intro (below_of hb1 hba) (And.intro hlt hsz))))
    clear hba hR hlt hsz hE hb1
    go_upto_region 4 with fail
    generalize w1.alloc _ = w2 at H4 ⊢
    generalize w1.heap.size = wp at H4 ⊢
    have Hsb : Hid (∀ b, srcOf A l = some b → b < w.heap.size) := Hsl
    go_wp2_with fail
    refine (opread_any w.heap.size (srcOf A l) l 0 _ H4.out.1 HX.out (by have := HL.out; omega) (fun b hb => by have := Hsb.out b hb; have := H4.out.2.2.2.1; have := H4.out.2.2.2.2; omega)).mono ?_
    rintro e w3 ⟨rfl, hE, hO⟩
    have HREF := Lib.hid (fun W hW hs => refopread_any wp (srcOf A l) l 0 W hW HX.out (by have := HL.out; omega) hs)
    have hfine := opRd_fine HX.out
    have hsub := drop_le (opRd_sub l 0)
    generalize opRd l 0 = q at hE hfine hsub HREF ⊢
    obtain ⟨ok, o, rest, f⟩ := q
    simp only [] at hE hfine hsub HREF ⊢
    have hrl : rest.length ≤ 1000 := by have := HL.out; omega
    have hox := OpAt.new w3 o 58
    have hba := below_alloc w3 (.cells (opCells o) 58)
    have hR2 := (H4.out.2.1.off hO (by have := H4.out.2.2.2.1; omega) (fun b hb => by have := Hsb.out b hb; omega)).below hba
    have hE2 := hE.below hba
    have hB2 := below_of (hO.below H4.out.2.2.1 H4.out.2.2.1.size (fun j hj e => by omega)) hba
    have hgx : w3.heap.size < (w3.alloc (.cells (opCells o) 58)).heap.size := by simp
    have hs3 : w2.heap.size ≤ w3.heap.size := hO.size
    have HF := Lib.hid hfine
    have H5 := Lib.hid (And.intro hE2 (And.intro hR2 (And.intro hB2 (And.intro hox (And.intro hgx (show wp < w3.heap.size by have := H4.out.2.2.2.2; omega))))))
    have HOO := Lib.hid (fun W => OpAt.new W o 58)
    clear hba hox hR2 hE2 hB2 hgx hs3 hE hO hfine hsub
    have hew : w.heap.size ≠ wp := by have := H4.out.2.2.2.1; omega
    have H4l := Lib.hid H4.out.2.2.2.1
    clear H4
    obtain ⟨kind, key, upto, val, limit⟩ := o
    simp only [opCells] at HREF H5 HOO ⊢
    go_upto_region 5 with fail
    generalize w3.alloc _ = w4 at H5 ⊢
    generalize w3.heap.size = gx at H5 ⊢
    go_wp2_with fail
    refine (HREF.out _ H5.out.2.1 (fun b hb => by have := Hsb.out b hb; have := H4l.out; have := H5.out.2.2.2.2.2; have := H5.out.2.2.2.2.1; omega)).mono ?_
    rintro e w5 ⟨rfl, hE, hO⟩
    have hoy := HOO.out w5
    have hba := below_alloc w5 (.cells #[.int .i64 kind, .string key, .string upto, .int .u64 (val : Int), .int .i64 limit] 58)
    have hE2 := (H5.out.1.off hO (by omega) (fun b hb => by have := Hsb.out b hb; have := H4l.out; omega)).below hba
    have hR2 := hE.below hba
    have hB2 := below_of (hO.below H5.out.2.2.1 H5.out.2.2.1.size (fun j hj e => by have := H4l.out; omega)) hba
    have hox := (H5.out.2.2.2.1.off hO H5.out.2.2.2.2.1 (by have := H5.out.2.2.2.2.2; omega)).up hba (Nat.lt_of_lt_of_le H5.out.2.2.2.2.1 hO.size)
    have hgy : w5.heap.size < (w5.alloc (.cells #[.int .i64 kind, .string key, .string upto, .int .u64 (val : Int), .int .i64 limit] 58)).heap.size := by simp
    have hgx : gx < (w5.alloc (.cells #[.int .i64 kind, .string key, .string upto, .int .u64 (val : Int), .int .i64 limit] 58)).heap.size := Nat.lt_of_lt_of_le H5.out.2.2.2.2.1 (Nat.le_trans hO.size hba.size)
    have HQ := Lib.hid (And.intro hE2 (And.intro hR2 (And.intro hB2 (And.intro hox (And.intro hoy (And.intro hgx hgy))))))
    clear hoy hba hE2 hR2 hB2 hox hgy hgx hE hO HREF HOO H5
    go_upto_region 6 with fail
    generalize w5.alloc _ = W at HQ ⊢
    generalize w5.heap.size = gy at HQ ⊢
    obtain ⟨A2, c2, ra, rb⟩ := reye_cells HQ.out.2.1
    have hwpl := HQ.out.2.1.lt
    refine wp_region_held_drew (S := fun w' => Below W.heap.size W w') (by kernel_rfl) (Below.drew (Below.refl _ _)) (fun hcur => ?_)
    replace hcur : Below W.heap.size W W.drew := hcur
    refine wpAnyH_take (i := 0) (v := ?_) rfl (by decide +kernel) (by decide +kernel) (by decide +kernel) (fun _ _ _ h => h) (Or.inl ⟨by rfl, ?hy⟩) hcur ?_
    case hy =>
      intro w1 hSw
      replace hSw : Below W.heap.size W w1 := hSw
      (try (obtain ⟨x0, x1, x2, x3, x4⟩ := id (HQ.out.2.2.2.1.up hSw HQ.out.2.2.2.2.2.1); obtain ⟨y0, y1, y2, y3, y4⟩ := id (HQ.out.2.2.2.2.1.up hSw HQ.out.2.2.2.2.2.2); have ra' := (hSw.cell (p := ⟨wp, 0, none⟩) hwpl).trans ra; have rb' := (hSw.cell (p := ⟨wp, 1, none⟩) hwpl).trans rb; simp only [] at x0 x1 x2 x3 x4 y0 y1 y2 y3 y4))
      (try have hcD := conv_any (c := c) (H4.out.2.2.1.up hSw))
      go_simp
      (try with_reducible rfl)
    (try simp only [Act.put, List.getElem_toArray, List.getElem_cons_zero, List.getElem_cons_succ, List.setIfInBounds_toArray, List.set_cons_zero, List.set_cons_succ])
    refine wpAnyH_take (i := 1) (v := ?_) rfl (by decide +kernel) (by decide +kernel) (by decide +kernel) (fun _ _ _ h => h) (Or.inl ⟨by rfl, ?hy⟩) hcur ?_
    case hy =>
      intro w1 hSw
      replace hSw : Below W.heap.size W w1 := hSw
      (try (obtain ⟨x0, x1, x2, x3, x4⟩ := id (HQ.out.2.2.2.1.up hSw HQ.out.2.2.2.2.2.1); obtain ⟨y0, y1, y2, y3, y4⟩ := id (HQ.out.2.2.2.2.1.up hSw HQ.out.2.2.2.2.2.2); have ra' := (hSw.cell (p := ⟨wp, 0, none⟩) hwpl).trans ra; have rb' := (hSw.cell (p := ⟨wp, 1, none⟩) hwpl).trans rb; simp only [] at x0 x1 x2 x3 x4 y0 y1 y2 y3 y4))
      (try have hcD := conv_any (c := c) (H4.out.2.2.1.up hSw))
      go_simp
      (try with_reducible rfl)
    (try simp only [Act.put, List.getElem_toArray, List.getElem_cons_zero, List.getElem_cons_succ, List.setIfInBounds_toArray, List.set_cons_zero, List.set_cons_succ])
    refine wpAnyH_take (i := 2) (v := ?_) rfl (by decide +kernel) (by decide +kernel) (by decide +kernel) (fun _ _ _ h => h) (Or.inl ⟨by rfl, ?hy⟩) hcur ?_
    case hy =>
      intro w1 hSw
      replace hSw : Below W.heap.size W w1 := hSw
      (try (obtain ⟨x0, x1, x2, x3, x4⟩ := id (HQ.out.2.2.2.1.up hSw HQ.out.2.2.2.2.2.1); obtain ⟨y0, y1, y2, y3, y4⟩ := id (HQ.out.2.2.2.2.1.up hSw HQ.out.2.2.2.2.2.2); have ra' := (hSw.cell (p := ⟨wp, 0, none⟩) hwpl).trans ra; have rb' := (hSw.cell (p := ⟨wp, 1, none⟩) hwpl).trans rb; simp only [] at x0 x1 x2 x3 x4 y0 y1 y2 y3 y4))
      (try have hcD := conv_any (c := c) (H4.out.2.2.1.up hSw))
      go_simp
      (try with_reducible rfl)
    (try simp only [Act.put, List.getElem_toArray, List.getElem_cons_zero, List.getElem_cons_succ, List.setIfInBounds_toArray, List.set_cons_zero, List.set_cons_succ])
    refine wpAnyH_take (i := 3) (v := ?_) rfl (by decide +kernel) (by decide +kernel) (by decide +kernel) (fun _ _ _ h => h) (Or.inl ⟨by rfl, ?hy⟩) hcur ?_
    case hy =>
      intro w1 hSw
      replace hSw : Below W.heap.size W w1 := hSw
      (try (obtain ⟨x0, x1, x2, x3, x4⟩ := id (HQ.out.2.2.2.1.up hSw HQ.out.2.2.2.2.2.1); obtain ⟨y0, y1, y2, y3, y4⟩ := id (HQ.out.2.2.2.2.1.up hSw HQ.out.2.2.2.2.2.2); have ra' := (hSw.cell (p := ⟨wp, 0, none⟩) hwpl).trans ra; have rb' := (hSw.cell (p := ⟨wp, 1, none⟩) hwpl).trans rb; simp only [] at x0 x1 x2 x3 x4 y0 y1 y2 y3 y4))
      (try have hcD := conv_any (c := c) (H4.out.2.2.1.up hSw))
      go_simp
      (try with_reducible rfl)
    (try simp only [Act.put, List.getElem_toArray, List.getElem_cons_zero, List.getElem_cons_succ, List.setIfInBounds_toArray, List.set_cons_zero, List.set_cons_succ])
    refine wpAnyH_take (i := 4) (v := ?_) rfl (by decide +kernel) (by decide +kernel) (by decide +kernel) (fun _ _ _ h => h) (Or.inl ⟨by rfl, ?hy⟩) hcur ?_
    case hy =>
      intro w1 hSw
      replace hSw : Below W.heap.size W w1 := hSw
      (try (obtain ⟨x0, x1, x2, x3, x4⟩ := id (HQ.out.2.2.2.1.up hSw HQ.out.2.2.2.2.2.1); obtain ⟨y0, y1, y2, y3, y4⟩ := id (HQ.out.2.2.2.2.1.up hSw HQ.out.2.2.2.2.2.2); have ra' := (hSw.cell (p := ⟨wp, 0, none⟩) hwpl).trans ra; have rb' := (hSw.cell (p := ⟨wp, 1, none⟩) hwpl).trans rb; simp only [] at x0 x1 x2 x3 x4 y0 y1 y2 y3 y4))
      (try have hcD := conv_any (c := c) (H4.out.2.2.1.up hSw))
      go_simp
      (try with_reducible rfl)
    (try simp only [Act.put, List.getElem_toArray, List.getElem_cons_zero, List.getElem_cons_succ, List.setIfInBounds_toArray, List.set_cons_zero, List.set_cons_succ])
    refine wpAnyH_take (i := 5) (v := ?_) rfl (by decide +kernel) (by decide +kernel) (by decide +kernel) (fun _ _ _ h => h) (Or.inl ⟨by rfl, ?hy⟩) hcur ?_
    case hy =>
      intro w1 hSw
      replace hSw : Below W.heap.size W w1 := hSw
      (try (obtain ⟨x0, x1, x2, x3, x4⟩ := id (HQ.out.2.2.2.1.up hSw HQ.out.2.2.2.2.2.1); obtain ⟨y0, y1, y2, y3, y4⟩ := id (HQ.out.2.2.2.2.1.up hSw HQ.out.2.2.2.2.2.2); have ra' := (hSw.cell (p := ⟨wp, 0, none⟩) hwpl).trans ra; have rb' := (hSw.cell (p := ⟨wp, 1, none⟩) hwpl).trans rb; simp only [] at x0 x1 x2 x3 x4 y0 y1 y2 y3 y4))
      (try have hcD := conv_any (c := c) (H4.out.2.2.1.up hSw))
      go_simp
      (try with_reducible rfl)
    (try simp only [Act.put, List.getElem_toArray, List.getElem_cons_zero, List.getElem_cons_succ, List.setIfInBounds_toArray, List.set_cons_zero, List.set_cons_succ])
    refine wpAnyH_take (i := 6) (v := ?_) rfl (by decide +kernel) (by decide +kernel) (by decide +kernel) (fun _ _ _ h => h) (Or.inl ⟨by rfl, ?hy⟩) hcur ?_
    case hy =>
      intro w1 hSw
      replace hSw : Below W.heap.size W w1 := hSw
      (try (obtain ⟨x0, x1, x2, x3, x4⟩ := id (HQ.out.2.2.2.1.up hSw HQ.out.2.2.2.2.2.1); obtain ⟨y0, y1, y2, y3, y4⟩ := id (HQ.out.2.2.2.2.1.up hSw HQ.out.2.2.2.2.2.2); have ra' := (hSw.cell (p := ⟨wp, 0, none⟩) hwpl).trans ra; have rb' := (hSw.cell (p := ⟨wp, 1, none⟩) hwpl).trans rb; simp only [] at x0 x1 x2 x3 x4 y0 y1 y2 y3 y4))
      (try have hcD := conv_any (c := c) (H4.out.2.2.1.up hSw))
      go_simp
      (try with_reducible rfl)
    (try simp only [Act.put, List.getElem_toArray, List.getElem_cons_zero, List.getElem_cons_succ, List.setIfInBounds_toArray, List.set_cons_zero, List.set_cons_succ])
    refine wpAnyH_take (i := 7) (v := ?_) rfl (by decide +kernel) (by decide +kernel) (by decide +kernel) (fun _ _ _ h => h) (Or.inl ⟨by rfl, ?hy⟩) hcur ?_
    case hy =>
      intro w1 hSw
      replace hSw : Below W.heap.size W w1 := hSw
      (try (obtain ⟨x0, x1, x2, x3, x4⟩ := id (HQ.out.2.2.2.1.up hSw HQ.out.2.2.2.2.2.1); obtain ⟨y0, y1, y2, y3, y4⟩ := id (HQ.out.2.2.2.2.1.up hSw HQ.out.2.2.2.2.2.2); have ra' := (hSw.cell (p := ⟨wp, 0, none⟩) hwpl).trans ra; have rb' := (hSw.cell (p := ⟨wp, 1, none⟩) hwpl).trans rb; simp only [] at x0 x1 x2 x3 x4 y0 y1 y2 y3 y4))
      (try have hcD := conv_any (c := c) (H4.out.2.2.1.up hSw))
      go_simp
      (try with_reducible rfl)
    (try simp only [Act.put, List.getElem_toArray, List.getElem_cons_zero, List.getElem_cons_succ, List.setIfInBounds_toArray, List.set_cons_zero, List.set_cons_succ])
    refine wpAnyH_take (i := 8) (v := ?_) rfl (by decide +kernel) (by decide +kernel) (by decide +kernel) (fun _ _ _ h => h) (Or.inl ⟨by rfl, ?hy⟩) hcur ?_
    case hy =>
      intro w1 hSw
      replace hSw : Below W.heap.size W w1 := hSw
      (try (obtain ⟨x0, x1, x2, x3, x4⟩ := id (HQ.out.2.2.2.1.up hSw HQ.out.2.2.2.2.2.1); obtain ⟨y0, y1, y2, y3, y4⟩ := id (HQ.out.2.2.2.2.1.up hSw HQ.out.2.2.2.2.2.2); have ra' := (hSw.cell (p := ⟨wp, 0, none⟩) hwpl).trans ra; have rb' := (hSw.cell (p := ⟨wp, 1, none⟩) hwpl).trans rb; simp only [] at x0 x1 x2 x3 x4 y0 y1 y2 y3 y4))
      (try have hcD := conv_any (c := c) (H4.out.2.2.1.up hSw))
      go_simp
      (try with_reducible rfl)
    (try simp only [Act.put, List.getElem_toArray, List.getElem_cons_zero, List.getElem_cons_succ, List.setIfInBounds_toArray, List.set_cons_zero, List.set_cons_succ])
    refine wpAnyH_take (i := 9) (v := ?_) rfl (by decide +kernel) (by decide +kernel) (by decide +kernel) (fun _ _ _ h => h) (Or.inl ⟨by rfl, ?hy⟩) hcur ?_
    case hy =>
      intro w1 hSw
      replace hSw : Below W.heap.size W w1 := hSw
      (try (obtain ⟨x0, x1, x2, x3, x4⟩ := id (HQ.out.2.2.2.1.up hSw HQ.out.2.2.2.2.2.1); obtain ⟨y0, y1, y2, y3, y4⟩ := id (HQ.out.2.2.2.2.1.up hSw HQ.out.2.2.2.2.2.2); have ra' := (hSw.cell (p := ⟨wp, 0, none⟩) hwpl).trans ra; have rb' := (hSw.cell (p := ⟨wp, 1, none⟩) hwpl).trans rb; simp only [] at x0 x1 x2 x3 x4 y0 y1 y2 y3 y4))
      (try have hcD := conv_any (c := c) (H4.out.2.2.1.up hSw))
      go_simp
      (try with_reducible rfl)
    (try simp only [Act.put, List.getElem_toArray, List.getElem_cons_zero, List.getElem_cons_succ, List.setIfInBounds_toArray, List.set_cons_zero, List.set_cons_succ])
    refine wpAnyH_take (i := 11) (v := ?_) rfl (by decide +kernel) (by decide +kernel) (by decide +kernel) (fun _ _ _ h => h) (Or.inl ⟨by rfl, ?hy⟩) hcur ?_
    case hy =>
      intro w1 hSw
      replace hSw : Below W.heap.size W w1 := hSw
      (try (obtain ⟨x0, x1, x2, x3, x4⟩ := id (HQ.out.2.2.2.1.up hSw HQ.out.2.2.2.2.2.1); obtain ⟨y0, y1, y2, y3, y4⟩ := id (HQ.out.2.2.2.2.1.up hSw HQ.out.2.2.2.2.2.2); have ra' := (hSw.cell (p := ⟨wp, 0, none⟩) hwpl).trans ra; have rb' := (hSw.cell (p := ⟨wp, 1, none⟩) hwpl).trans rb; simp only [] at x0 x1 x2 x3 x4 y0 y1 y2 y3 y4))
      (try have hcD := conv_any (c := c) (H4.out.2.2.1.up hSw))
      go_simp
      (try with_reducible rfl)
    (try simp only [Act.put, List.getElem_toArray, List.getElem_cons_zero, List.getElem_cons_succ, List.setIfInBounds_toArray, List.set_cons_zero, List.set_cons_succ])
    refine wpAnyH_take (i := 12) (v := ?_) rfl (by decide +kernel) (by decide +kernel) (by decide +kernel) (fun _ _ _ h => h) (Or.inl ⟨by rfl, ?hy⟩) hcur ?_
    case hy =>
      intro w1 hSw
      replace hSw : Below W.heap.size W w1 := hSw
      (try (obtain ⟨x0, x1, x2, x3, x4⟩ := id (HQ.out.2.2.2.1.up hSw HQ.out.2.2.2.2.2.1); obtain ⟨y0, y1, y2, y3, y4⟩ := id (HQ.out.2.2.2.2.1.up hSw HQ.out.2.2.2.2.2.2); have ra' := (hSw.cell (p := ⟨wp, 0, none⟩) hwpl).trans ra; have rb' := (hSw.cell (p := ⟨wp, 1, none⟩) hwpl).trans rb; simp only [] at x0 x1 x2 x3 x4 y0 y1 y2 y3 y4))
      (try have hcD := conv_any (c := c) (H4.out.2.2.1.up hSw))
      go_simp
      (try with_reducible rfl)
    (try simp only [Act.put, List.getElem_toArray, List.getElem_cons_zero, List.getElem_cons_succ, List.setIfInBounds_toArray, List.set_cons_zero, List.set_cons_succ])
    refine wpAnyH_take (i := 13) (v := ?_) rfl (by decide +kernel) (by decide +kernel) (by decide +kernel) (fun _ _ _ h => h) (Or.inl ⟨by rfl, ?hy⟩) hcur ?_
    case hy =>
      intro w1 hSw
      replace hSw : Below W.heap.size W w1 := hSw
      (try (obtain ⟨x0, x1, x2, x3, x4⟩ := id (HQ.out.2.2.2.1.up hSw HQ.out.2.2.2.2.2.1); obtain ⟨y0, y1, y2, y3, y4⟩ := id (HQ.out.2.2.2.2.1.up hSw HQ.out.2.2.2.2.2.2); have ra' := (hSw.cell (p := ⟨wp, 0, none⟩) hwpl).trans ra; have rb' := (hSw.cell (p := ⟨wp, 1, none⟩) hwpl).trans rb; simp only [] at x0 x1 x2 x3 x4 y0 y1 y2 y3 y4))
      (try have hcD := conv_any (c := c) (H4.out.2.2.1.up hSw))
      go_simp
      (try with_reducible rfl)
    (try simp only [Act.put, List.getElem_toArray, List.getElem_cons_zero, List.getElem_cons_succ, List.setIfInBounds_toArray, List.set_cons_zero, List.set_cons_succ])
    refine wpAnyH_take (i := 14) (v := ?_) rfl (by decide +kernel) (by decide +kernel) (by decide +kernel) (fun _ _ _ h => h) (Or.inl ⟨by rfl, ?hy⟩) hcur ?_
    case hy =>
      intro w1 hSw
      replace hSw : Below W.heap.size W w1 := hSw
      (try (obtain ⟨x0, x1, x2, x3, x4⟩ := id (HQ.out.2.2.2.1.up hSw HQ.out.2.2.2.2.2.1); obtain ⟨y0, y1, y2, y3, y4⟩ := id (HQ.out.2.2.2.2.1.up hSw HQ.out.2.2.2.2.2.2); have ra' := (hSw.cell (p := ⟨wp, 0, none⟩) hwpl).trans ra; have rb' := (hSw.cell (p := ⟨wp, 1, none⟩) hwpl).trans rb; simp only [] at x0 x1 x2 x3 x4 y0 y1 y2 y3 y4))
      (try have hcD := conv_any (c := c) (H4.out.2.2.1.up hSw))
      go_simp
      (try with_reducible rfl)
    (try simp only [Act.put, List.getElem_toArray, List.getElem_cons_zero, List.getElem_cons_succ, List.setIfInBounds_toArray, List.set_cons_zero, List.set_cons_succ])
    refine wpAnyH_take (i := 15) (v := ?_) rfl (by decide +kernel) (by decide +kernel) (by decide +kernel) (fun _ _ _ h => h) (Or.inl ⟨by rfl, ?hy⟩) hcur ?_
    case hy =>
      intro w1 hSw
      replace hSw : Below W.heap.size W w1 := hSw
      (try (obtain ⟨x0, x1, x2, x3, x4⟩ := id (HQ.out.2.2.2.1.up hSw HQ.out.2.2.2.2.2.1); obtain ⟨y0, y1, y2, y3, y4⟩ := id (HQ.out.2.2.2.2.1.up hSw HQ.out.2.2.2.2.2.2); have ra' := (hSw.cell (p := ⟨wp, 0, none⟩) hwpl).trans ra; have rb' := (hSw.cell (p := ⟨wp, 1, none⟩) hwpl).trans rb; simp only [] at x0 x1 x2 x3 x4 y0 y1 y2 y3 y4))
      (try have hcD := conv_any (c := c) (H4.out.2.2.1.up hSw))
      go_simp
      (try with_reducible rfl)
    (try simp only [Act.put, List.getElem_toArray, List.getElem_cons_zero, List.getElem_cons_succ, List.setIfInBounds_toArray, List.set_cons_zero, List.set_cons_succ])
    refine wpAnyH_ready (rs := [10]) (by decide +kernel) (by simp) ?_
    refine AllReadyH.cons rfl (fun K hK => ?_) AllReadyH.nil
    go_simp
    refine (ret_still (eyeleft_any w.heap.size (srcOf A l) rest f _ (HQ.out.1.below hcur) (by omega))).mono ?_
    rintro e wn ⟨rfl, hbn⟩
    go_wp2_with fail
    refine hK.out _ _ (below_of hcur hbn) (fun _ => ?_)
    clear hK K
    replace hcur := below_of hcur hbn
    clear hbn
    (try simp only [Act.put, List.getElem_toArray, List.getElem_cons_zero, List.getElem_cons_succ, List.setIfInBounds_toArray, List.set_cons_zero, List.set_cons_succ])
    refine wpAnyH_take (i := 16) (v := ?_) rfl (by decide +kernel) (by decide +kernel) (by decide +kernel) (fun _ _ _ h => h) (Or.inl ⟨by rfl, ?hy⟩) hcur ?_
    case hy =>
      intro w1 hSw
      replace hSw : Below W.heap.size W w1 := hSw
      (try (obtain ⟨x0, x1, x2, x3, x4⟩ := id (HQ.out.2.2.2.1.up hSw HQ.out.2.2.2.2.2.1); obtain ⟨y0, y1, y2, y3, y4⟩ := id (HQ.out.2.2.2.2.1.up hSw HQ.out.2.2.2.2.2.2); have ra' := (hSw.cell (p := ⟨wp, 0, none⟩) hwpl).trans ra; have rb' := (hSw.cell (p := ⟨wp, 1, none⟩) hwpl).trans rb; simp only [] at x0 x1 x2 x3 x4 y0 y1 y2 y3 y4))
      (try have hcD := conv_any (c := c) (H4.out.2.2.1.up hSw))
      go_simp
      (try with_reducible rfl)
    (try simp only [Act.put, List.getElem_toArray, List.getElem_cons_zero, List.getElem_cons_succ, List.setIfInBounds_toArray, List.set_cons_zero, List.set_cons_succ])
    refine wpAnyH_take (i := 17) (v := ?_) rfl (by decide +kernel) (by decide +kernel) (by decide +kernel) (fun _ _ _ h => h) (Or.inl ⟨by rfl, ?hy⟩) hcur ?_
    case hy =>
      intro w1 hSw
      replace hSw : Below W.heap.size W w1 := hSw
      (try (obtain ⟨x0, x1, x2, x3, x4⟩ := id (HQ.out.2.2.2.1.up hSw HQ.out.2.2.2.2.2.1); obtain ⟨y0, y1, y2, y3, y4⟩ := id (HQ.out.2.2.2.2.1.up hSw HQ.out.2.2.2.2.2.2); have ra' := (hSw.cell (p := ⟨wp, 0, none⟩) hwpl).trans ra; have rb' := (hSw.cell (p := ⟨wp, 1, none⟩) hwpl).trans rb; simp only [] at x0 x1 x2 x3 x4 y0 y1 y2 y3 y4))
      (try have hcD := conv_any (c := c) (H4.out.2.2.1.up hSw))
      go_simp
      (try with_reducible rfl)
    (try simp only [Act.put, List.getElem_toArray, List.getElem_cons_zero, List.getElem_cons_succ, List.setIfInBounds_toArray, List.set_cons_zero, List.set_cons_succ])
    refine wpAnyH_take (i := 18) (v := ?_) rfl (by decide +kernel) (by decide +kernel) (by decide +kernel) (fun _ _ _ h => h) (Or.inl ⟨by rfl, ?hy⟩) hcur ?_
    case hy =>
      intro w1 hSw
      replace hSw : Below W.heap.size W w1 := hSw
      (try (obtain ⟨x0, x1, x2, x3, x4⟩ := id (HQ.out.2.2.2.1.up hSw HQ.out.2.2.2.2.2.1); obtain ⟨y0, y1, y2, y3, y4⟩ := id (HQ.out.2.2.2.2.1.up hSw HQ.out.2.2.2.2.2.2); have ra' := (hSw.cell (p := ⟨wp, 0, none⟩) hwpl).trans ra; have rb' := (hSw.cell (p := ⟨wp, 1, none⟩) hwpl).trans rb; simp only [] at x0 x1 x2 x3 x4 y0 y1 y2 y3 y4))
      (try have hcD := conv_any (c := c) (H4.out.2.2.1.up hSw))
      go_simp
      (try with_reducible rfl)
    (try simp only [Act.put, List.getElem_toArray, List.getElem_cons_zero, List.getElem_cons_succ, List.setIfInBounds_toArray, List.set_cons_zero, List.set_cons_succ])
    refine wpAnyH_take (i := 19) (v := ?_) rfl (by decide +kernel) (by decide +kernel) (by decide +kernel) (fun _ _ _ h => h) (Or.inl ⟨by rfl, ?hy⟩) hcur ?_
    case hy =>
      intro w1 hSw
      replace hSw : Below W.heap.size W w1 := hSw
      (try (obtain ⟨x0, x1, x2, x3, x4⟩ := id (HQ.out.2.2.2.1.up hSw HQ.out.2.2.2.2.2.1); obtain ⟨y0, y1, y2, y3, y4⟩ := id (HQ.out.2.2.2.2.1.up hSw HQ.out.2.2.2.2.2.2); have ra' := (hSw.cell (p := ⟨wp, 0, none⟩) hwpl).trans ra; have rb' := (hSw.cell (p := ⟨wp, 1, none⟩) hwpl).trans rb; simp only [] at x0 x1 x2 x3 x4 y0 y1 y2 y3 y4))
      (try have hcD := conv_any (c := c) (H4.out.2.2.1.up hSw))
      go_simp
      (try with_reducible rfl)
    (try simp only [Act.put, List.getElem_toArray, List.getElem_cons_zero, List.getElem_cons_succ, List.setIfInBounds_toArray, List.set_cons_zero, List.set_cons_succ])
    refine wpAnyH_take (i := 21) (v := ?_) rfl (by decide +kernel) (by decide +kernel) (by decide +kernel) (fun _ _ _ h => h) (Or.inl ⟨by rfl, ?hy⟩) hcur ?_
    case hy =>
      intro w1 hSw
      replace hSw : Below W.heap.size W w1 := hSw
      (try (obtain ⟨x0, x1, x2, x3, x4⟩ := id (HQ.out.2.2.2.1.up hSw HQ.out.2.2.2.2.2.1); obtain ⟨y0, y1, y2, y3, y4⟩ := id (HQ.out.2.2.2.2.1.up hSw HQ.out.2.2.2.2.2.2); have ra' := (hSw.cell (p := ⟨wp, 0, none⟩) hwpl).trans ra; have rb' := (hSw.cell (p := ⟨wp, 1, none⟩) hwpl).trans rb; simp only [] at x0 x1 x2 x3 x4 y0 y1 y2 y3 y4))
      (try have hcD := conv_any (c := c) (H4.out.2.2.1.up hSw))
      go_simp
      (try with_reducible rfl)
    (try simp only [Act.put, List.getElem_toArray, List.getElem_cons_zero, List.getElem_cons_succ, List.setIfInBounds_toArray, List.set_cons_zero, List.set_cons_succ])
    refine wpAnyH_take (i := 22) (v := ?_) rfl (by decide +kernel) (by decide +kernel) (by decide +kernel) (fun _ _ _ h => h) (Or.inl ⟨by rfl, ?hy⟩) hcur ?_
    case hy =>
      intro w1 hSw
      replace hSw : Below W.heap.size W w1 := hSw
      (try (obtain ⟨x0, x1, x2, x3, x4⟩ := id (HQ.out.2.2.2.1.up hSw HQ.out.2.2.2.2.2.1); obtain ⟨y0, y1, y2, y3, y4⟩ := id (HQ.out.2.2.2.2.1.up hSw HQ.out.2.2.2.2.2.2); have ra' := (hSw.cell (p := ⟨wp, 0, none⟩) hwpl).trans ra; have rb' := (hSw.cell (p := ⟨wp, 1, none⟩) hwpl).trans rb; simp only [] at x0 x1 x2 x3 x4 y0 y1 y2 y3 y4))
      (try have hcD := conv_any (c := c) (H4.out.2.2.1.up hSw))
      go_simp
      (try with_reducible rfl)
    (try simp only [Act.put, List.getElem_toArray, List.getElem_cons_zero, List.getElem_cons_succ, List.setIfInBounds_toArray, List.set_cons_zero, List.set_cons_succ])
    refine wpAnyH_take (i := 23) (v := ?_) rfl (by decide +kernel) (by decide +kernel) (by decide +kernel) (fun _ _ _ h => h) (Or.inl ⟨by rfl, ?hy⟩) hcur ?_
    case hy =>
      intro w1 hSw
      replace hSw : Below W.heap.size W w1 := hSw
      (try (obtain ⟨x0, x1, x2, x3, x4⟩ := id (HQ.out.2.2.2.1.up hSw HQ.out.2.2.2.2.2.1); obtain ⟨y0, y1, y2, y3, y4⟩ := id (HQ.out.2.2.2.2.1.up hSw HQ.out.2.2.2.2.2.2); have ra' := (hSw.cell (p := ⟨wp, 0, none⟩) hwpl).trans ra; have rb' := (hSw.cell (p := ⟨wp, 1, none⟩) hwpl).trans rb; simp only [] at x0 x1 x2 x3 x4 y0 y1 y2 y3 y4))
      (try have hcD := conv_any (c := c) (H4.out.2.2.1.up hSw))
      go_simp
      (try with_reducible rfl)
    (try simp only [Act.put, List.getElem_toArray, List.getElem_cons_zero, List.getElem_cons_succ, List.setIfInBounds_toArray, List.set_cons_zero, List.set_cons_succ])
    refine wpAnyH_take (i := 24) (v := ?_) rfl (by decide +kernel) (by decide +kernel) (by decide +kernel) (fun _ _ _ h => h) (Or.inl ⟨by rfl, ?hy⟩) hcur ?_
    case hy =>
      intro w1 hSw
      replace hSw : Below W.heap.size W w1 := hSw
      (try (obtain ⟨x0, x1, x2, x3, x4⟩ := id (HQ.out.2.2.2.1.up hSw HQ.out.2.2.2.2.2.1); obtain ⟨y0, y1, y2, y3, y4⟩ := id (HQ.out.2.2.2.2.1.up hSw HQ.out.2.2.2.2.2.2); have ra' := (hSw.cell (p := ⟨wp, 0, none⟩) hwpl).trans ra; have rb' := (hSw.cell (p := ⟨wp, 1, none⟩) hwpl).trans rb; simp only [] at x0 x1 x2 x3 x4 y0 y1 y2 y3 y4))
      (try have hcD := conv_any (c := c) (H4.out.2.2.1.up hSw))
      go_simp
      (try with_reducible rfl)
    (try simp only [Act.put, List.getElem_toArray, List.getElem_cons_zero, List.getElem_cons_succ, List.setIfInBounds_toArray, List.set_cons_zero, List.set_cons_succ])
    refine wpAnyH_ready (rs := [20]) (by decide +kernel) (by simp) ?_
    refine AllReadyH.cons rfl (fun K hK => ?_) AllReadyH.nil
    go_simp
    refine (ret_still (eyefault_any w.heap.size (srcOf A l) rest f _ (HQ.out.1.below hcur))).mono ?_
    rintro e wn ⟨rfl, hbn⟩
    go_wp2_with fail
    refine hK.out _ _ (below_of hcur hbn) (fun _ => ?_)
    clear hK K
    replace hcur := below_of hcur hbn
    clear hbn
    (try simp only [Act.put, List.getElem_toArray, List.getElem_cons_zero, List.getElem_cons_succ, List.setIfInBounds_toArray, List.set_cons_zero, List.set_cons_succ])
    refine wpAnyH_take (i := 25) (v := ?_) rfl (by decide +kernel) (by decide +kernel) (by decide +kernel) (fun _ _ _ h => h) (Or.inl ⟨by rfl, ?hy⟩) hcur ?_
    case hy =>
      intro w1 hSw
      replace hSw : Below W.heap.size W w1 := hSw
      (try (obtain ⟨x0, x1, x2, x3, x4⟩ := id (HQ.out.2.2.2.1.up hSw HQ.out.2.2.2.2.2.1); obtain ⟨y0, y1, y2, y3, y4⟩ := id (HQ.out.2.2.2.2.1.up hSw HQ.out.2.2.2.2.2.2); have ra' := (hSw.cell (p := ⟨wp, 0, none⟩) hwpl).trans ra; have rb' := (hSw.cell (p := ⟨wp, 1, none⟩) hwpl).trans rb; simp only [] at x0 x1 x2 x3 x4 y0 y1 y2 y3 y4))
      (try have hcD := conv_any (c := c) (H4.out.2.2.1.up hSw))
      go_simp
      (try with_reducible rfl)
    (try simp only [Act.put, List.getElem_toArray, List.getElem_cons_zero, List.getElem_cons_succ, List.setIfInBounds_toArray, List.set_cons_zero, List.set_cons_succ])
    refine wpAnyH_take (i := 26) (v := ?_) rfl (by decide +kernel) (by decide +kernel) (by decide +kernel) (fun _ _ _ h => h) (Or.inl ⟨by rfl, ?hy⟩) hcur ?_
    case hy =>
      intro w1 hSw
      replace hSw : Below W.heap.size W w1 := hSw
      (try (obtain ⟨x0, x1, x2, x3, x4⟩ := id (HQ.out.2.2.2.1.up hSw HQ.out.2.2.2.2.2.1); obtain ⟨y0, y1, y2, y3, y4⟩ := id (HQ.out.2.2.2.2.1.up hSw HQ.out.2.2.2.2.2.2); have ra' := (hSw.cell (p := ⟨wp, 0, none⟩) hwpl).trans ra; have rb' := (hSw.cell (p := ⟨wp, 1, none⟩) hwpl).trans rb; simp only [] at x0 x1 x2 x3 x4 y0 y1 y2 y3 y4))
      (try have hcD := conv_any (c := c) (H4.out.2.2.1.up hSw))
      go_simp
      (try with_reducible rfl)
    (try simp only [Act.put, List.getElem_toArray, List.getElem_cons_zero, List.getElem_cons_succ, List.setIfInBounds_toArray, List.set_cons_zero, List.set_cons_succ])
    refine wpAnyH_done (by decide +kernel) ?_ _
    cases ok
    · go_wp2_with fail
      refine (lives16_any _).mono ?_
      rintro e w7 ⟨rfl, hb7⟩
      go_wp2_with fail
      go_ret
      exact ⟨rfl, below_of (below_of HQ.out.2.2.1 hcur) hb7⟩
    · have hfine := HF.out rfl
      have hf0 : f = 0 := by have := hfine.1; simpa using this
      subst hf0
      have hox := HQ.out.2.2.2.1.up hcur HQ.out.2.2.2.2.2.1
      have hE := HQ.out.1.below hcur
      have hB := below_of HQ.out.2.2.1 hcur
      have hgl : gx < wn.heap.size := Nat.lt_of_lt_of_le HQ.out.2.2.2.2.2.1 hcur.size
      have hsn : (wn.alloc (.cells #[.slice none 0 0] 40)).heap.size = wn.heap.size + 1 := by simp
      have hba := below_alloc wn (.cells #[.slice none 0 0] 40)
      have H8 := Lib.hid (And.intro (pen_new wn) (And.intro (hE.below hba) (And.intro (below_of hB hba) (And.intro (hox.up hba hgl) (And.intro hsn (And.intro hE.lt hB.size))))))
      have HFN := Lib.hid hfine.2
      clear hfine hox hE hB hgl hsn hba HQ ra rb hwpl hcur HF
      go_upto_region 11 with fail
      generalize wn.alloc _ = w6 at H8 ⊢
      obtain ⟨x0, x1, x2, x3, x4⟩ := id H8.out.2.2.2.1
      simp only [] at x0 x1 x2 x3 x4
      go_wp2_with fail
      refine (opwrite_any wn.heap.size none (some ⟨w6.heap.size, 0, none⟩) 1 [⟨kind, key, upto, val, limit⟩] _ (H8.out.1.below (below_alloc _ _)) (opl_one w6 _ _) (fun a ha e => by injection ha with ha; subst ha; have := H8.out.2.2.2.2.1; simp only [] at e; rcases e with e | e <;> first | omega | cases e) (by intro x hx; simp at hx; subst hx; exact HFN.out.2.1) (by intro x hx; simp at hx; subst hx; have := HFN.out.2.2; simp only [] at this ⊢; omega) (by simp)).mono ?_
      rintro e w8 ⟨rfl, r8, hrel⟩
      replace hrel := PenRel.of_below (below_alloc _ _) hrel
      have hob : opsBytes [⟨kind, key, upto, val, limit⟩] = opBytes ⟨kind, key, upto, val, limit⟩ := by simp [opsBytes]
      rw [hob] at hrel
      have hw2 : w.heap.size ≤ wn.heap.size := H8.out.2.2.2.2.2.2
      have K := hrel.keeps H8.out.2.2.1 H8.out.2.2.1.size hw2 (by simp)
      have hey := H8.out.2.1.off hrel.2.1 (fun e => e.elim (fun e => by have := H8.out.2.2.2.2.2.1; omega) (fun e => by cases e)) (fun b hb e => e.elim (fun e => by have := Hsb.out b hb; omega) (fun e => by cases e))
      have hrd := (rd_first HR.out HFN.out.1).up K.1
      have hlen := congrArg List.length HFN.out.1
      rw [List.length_append] at hlen
      have H4 := Lib.hid (And.intro hrel.1 (And.intro hey (And.intro hrd K.1)))
      clear hey hrd K hrel H8 HFN hob x0 x1 x2 x3 x4
      generalize opBytes ⟨kind, key, upto, val, limit⟩ = D at H4 hlen
      have HC2 := Lib.hid (show D.length ≤ c by have := HC.out; omega)
      have hDl : D.length ≤ 2000 := by have := HL.out; omega
      have s1 : IntKind.i64.wrap ((l.length : Int) - (rest.length : Int)) = (D.length : Int) := by rw [IntWalk.i64_in _ (by omega)]; omega
      have s2 : (D.length : Int) ≤ (c : Int) := by have := HC2.out; omega
      clear hlen
      go_upto_region 12 with fail
      generalize w8 = W at H4 ⊢
      refine wp_region_held_drew (S := fun w' => Below W.heap.size W w') (by kernel_rfl) (Below.drew (Below.refl _ _)) (fun hcur => ?_)
      replace hcur : Below W.heap.size W W.drew := hcur
      refine wpAnyH_take (i := 2) (v := ?_) rfl (by decide +kernel) (by decide +kernel) (by decide +kernel) (fun _ _ _ h => h) (Or.inl ⟨by rfl, ?hy⟩) hcur ?_
      case hy =>
        intro w1 hSw
        replace hSw : Below W.heap.size W w1 := hSw
        (try (obtain ⟨x0, x1, x2, x3, x4⟩ := id (HQ.out.2.2.2.1.up hSw HQ.out.2.2.2.2.2.1); obtain ⟨y0, y1, y2, y3, y4⟩ := id (HQ.out.2.2.2.2.1.up hSw HQ.out.2.2.2.2.2.2); have ra' := (hSw.cell (p := ⟨wp, 0, none⟩) hwpl).trans ra; have rb' := (hSw.cell (p := ⟨wp, 1, none⟩) hwpl).trans rb; simp only [] at x0 x1 x2 x3 x4 y0 y1 y2 y3 y4))
        (try have hcD := conv_any (c := c) (H4.out.2.2.1.up hSw))
        go_simp
        (try with_reducible rfl)
      (try simp only [Act.put, List.getElem_toArray, List.getElem_cons_zero, List.getElem_cons_succ, List.setIfInBounds_toArray, List.set_cons_zero, List.set_cons_succ])
      refine wpAnyH_take (i := 3) (v := ?_) rfl (by decide +kernel) (by decide +kernel) (by decide +kernel) (fun _ _ _ h => h) (Or.inl ⟨by rfl, ?hy⟩) hcur ?_
      case hy =>
        intro w1 hSw
        replace hSw : Below W.heap.size W w1 := hSw
        (try (obtain ⟨x0, x1, x2, x3, x4⟩ := id (HQ.out.2.2.2.1.up hSw HQ.out.2.2.2.2.2.1); obtain ⟨y0, y1, y2, y3, y4⟩ := id (HQ.out.2.2.2.2.1.up hSw HQ.out.2.2.2.2.2.2); have ra' := (hSw.cell (p := ⟨wp, 0, none⟩) hwpl).trans ra; have rb' := (hSw.cell (p := ⟨wp, 1, none⟩) hwpl).trans rb; simp only [] at x0 x1 x2 x3 x4 y0 y1 y2 y3 y4))
        (try have hcD := conv_any (c := c) (H4.out.2.2.1.up hSw))
        go_simp
        (try with_reducible rfl)
      (try simp only [Act.put, List.getElem_toArray, List.getElem_cons_zero, List.getElem_cons_succ, List.setIfInBounds_toArray, List.set_cons_zero, List.set_cons_succ])
      refine wpAnyH_take (i := 4) (v := ?_) rfl (by decide +kernel) (by decide +kernel) (by decide +kernel) (fun _ _ _ h => h) (Or.inl ⟨by rfl, ?hy⟩) hcur ?_
      case hy =>
        intro w1 hSw
        replace hSw : Below W.heap.size W w1 := hSw
        (try (obtain ⟨x0, x1, x2, x3, x4⟩ := id (HQ.out.2.2.2.1.up hSw HQ.out.2.2.2.2.2.1); obtain ⟨y0, y1, y2, y3, y4⟩ := id (HQ.out.2.2.2.2.1.up hSw HQ.out.2.2.2.2.2.2); have ra' := (hSw.cell (p := ⟨wp, 0, none⟩) hwpl).trans ra; have rb' := (hSw.cell (p := ⟨wp, 1, none⟩) hwpl).trans rb; simp only [] at x0 x1 x2 x3 x4 y0 y1 y2 y3 y4))
        (try have hcD := conv_any (c := c) (H4.out.2.2.1.up hSw))
        go_simp
        (try with_reducible rfl)
      (try simp only [Act.put, List.getElem_toArray, List.getElem_cons_zero, List.getElem_cons_succ, List.setIfInBounds_toArray, List.set_cons_zero, List.set_cons_succ])
      refine wpAnyH_take (i := 5) (v := ?_) rfl (by decide +kernel) (by decide +kernel) (by decide +kernel) (fun _ _ _ h => h) (Or.inl ⟨by rfl, ?hy⟩) hcur ?_
      case hy =>
        intro w1 hSw
        replace hSw : Below W.heap.size W w1 := hSw
        (try (obtain ⟨x0, x1, x2, x3, x4⟩ := id (HQ.out.2.2.2.1.up hSw HQ.out.2.2.2.2.2.1); obtain ⟨y0, y1, y2, y3, y4⟩ := id (HQ.out.2.2.2.2.1.up hSw HQ.out.2.2.2.2.2.2); have ra' := (hSw.cell (p := ⟨wp, 0, none⟩) hwpl).trans ra; have rb' := (hSw.cell (p := ⟨wp, 1, none⟩) hwpl).trans rb; simp only [] at x0 x1 x2 x3 x4 y0 y1 y2 y3 y4))
        (try have hcD := conv_any (c := c) (H4.out.2.2.1.up hSw))
        go_simp
        (try with_reducible rfl)
      (try simp only [Act.put, List.getElem_toArray, List.getElem_cons_zero, List.getElem_cons_succ, List.setIfInBounds_toArray, List.set_cons_zero, List.set_cons_succ])
      refine wpAnyH_ready (rs := [0]) (by decide +kernel) (by simp) ?_
      refine AllReadyH.cons rfl (fun K hK => ?_) AllReadyH.nil
      go_simp
      refine (penbytes_any wn.heap.size r8 D _ (H4.out.1.below hcur) (by omega)).mono ?_
      rintro e w9 ⟨A3, c3, rfl, ho3, hb3⟩
      go_wp2_with fail
      refine hK.out _ _ (below_of hcur hb3) (fun _ => ?_)
      clear hK K
      replace hcur := below_of hcur hb3
      (try simp only [Act.put, List.getElem_toArray, List.getElem_cons_zero, List.getElem_cons_succ, List.setIfInBounds_toArray, List.set_cons_zero, List.set_cons_succ])
      have hc2 := made_conv ho3
      refine wpAnyH_ready (rs := [1, 6]) (by decide +kernel) (by simp) ?_
      refine AllReadyH.cons rfl (fun K hK => ?_) (AllReadyH.cons rfl (fun K hK => ?_) AllReadyH.nil)
      · go_simp
        refine hK.out _ _ hcur (fun _ => ?_)
        clear hK K
        (try simp only [Act.put, List.getElem_toArray, List.getElem_cons_zero, List.getElem_cons_succ, List.setIfInBounds_toArray, List.set_cons_zero, List.set_cons_succ])
        refine wpAnyH_ready (rs := [6]) (by decide +kernel) (by simp) ?_
        refine AllReadyH.cons rfl (fun K hK => ?_) AllReadyH.nil
        go_simp
        refine (eyeleft_any w.heap.size (srcOf A l) rest 0 _ (H4.out.2.1.below hcur) (by omega)).mono ?_
        rintro e wn2 ⟨rfl, rfl⟩
        go_wp2_with fail
        refine hK.out _ _ hcur (fun _ => ?_)
        clear hK K
        (try simp only [Act.put, List.getElem_toArray, List.getElem_cons_zero, List.getElem_cons_succ, List.setIfInBounds_toArray, List.set_cons_zero, List.set_cons_succ])
        refine wpAnyH_take (i := 7) (v := ?_) rfl (by decide +kernel) (by decide +kernel) (by decide +kernel) (fun _ _ _ h => h) (Or.inl ⟨by rfl, ?hy⟩) hcur ?_
        case hy =>
          intro w1 hSw
          replace hSw : Below W.heap.size W w1 := hSw
          (try (obtain ⟨x0, x1, x2, x3, x4⟩ := id (HQ.out.2.2.2.1.up hSw HQ.out.2.2.2.2.2.1); obtain ⟨y0, y1, y2, y3, y4⟩ := id (HQ.out.2.2.2.2.1.up hSw HQ.out.2.2.2.2.2.2); have ra' := (hSw.cell (p := ⟨wp, 0, none⟩) hwpl).trans ra; have rb' := (hSw.cell (p := ⟨wp, 1, none⟩) hwpl).trans rb; simp only [] at x0 x1 x2 x3 x4 y0 y1 y2 y3 y4))
          (try have hcD := conv_any (c := c) (H4.out.2.2.1.up hSw))
          go_simp
          (try with_reducible rfl)
        (try simp only [Act.put, List.getElem_toArray, List.getElem_cons_zero, List.getElem_cons_succ, List.setIfInBounds_toArray, List.set_cons_zero, List.set_cons_succ])
        refine wpAnyH_take (i := 8) (v := ?_) rfl (by decide +kernel) (by decide +kernel) (by decide +kernel) (fun _ _ _ h => h) (Or.inl ⟨by rfl, ?hy⟩) hcur ?_
        case hy =>
          intro w1 hSw
          replace hSw : Below W.heap.size W w1 := hSw
          (try (obtain ⟨x0, x1, x2, x3, x4⟩ := id (HQ.out.2.2.2.1.up hSw HQ.out.2.2.2.2.2.1); obtain ⟨y0, y1, y2, y3, y4⟩ := id (HQ.out.2.2.2.2.1.up hSw HQ.out.2.2.2.2.2.2); have ra' := (hSw.cell (p := ⟨wp, 0, none⟩) hwpl).trans ra; have rb' := (hSw.cell (p := ⟨wp, 1, none⟩) hwpl).trans rb; simp only [] at x0 x1 x2 x3 x4 y0 y1 y2 y3 y4))
          (try have hcD := conv_any (c := c) (H4.out.2.2.1.up hSw))
          go_simp
          (try with_reducible rfl)
        (try simp only [Act.put, List.getElem_toArray, List.getElem_cons_zero, List.getElem_cons_succ, List.setIfInBounds_toArray, List.set_cons_zero, List.set_cons_succ])
        refine wpAnyH_take (i := 9) (v := ?_) rfl (by decide +kernel) (by decide +kernel) (by decide +kernel) (fun _ _ _ h => h) (Or.inl ⟨by rfl, ?hy⟩) hcur ?_
        case hy =>
          intro w1 hSw
          replace hSw : Below W.heap.size W w1 := hSw
          (try (obtain ⟨x0, x1, x2, x3, x4⟩ := id (HQ.out.2.2.2.1.up hSw HQ.out.2.2.2.2.2.1); obtain ⟨y0, y1, y2, y3, y4⟩ := id (HQ.out.2.2.2.2.1.up hSw HQ.out.2.2.2.2.2.2); have ra' := (hSw.cell (p := ⟨wp, 0, none⟩) hwpl).trans ra; have rb' := (hSw.cell (p := ⟨wp, 1, none⟩) hwpl).trans rb; simp only [] at x0 x1 x2 x3 x4 y0 y1 y2 y3 y4))
          (try have hcD := conv_any (c := c) (H4.out.2.2.1.up hSw))
          go_simp
          (try with_reducible rfl)
        (try simp only [Act.put, List.getElem_toArray, List.getElem_cons_zero, List.getElem_cons_succ, List.setIfInBounds_toArray, List.set_cons_zero, List.set_cons_succ])
        refine wpAnyH_take (i := 10) (v := ?_) rfl (by decide +kernel) (by decide +kernel) (by decide +kernel) (fun _ _ _ h => h) (Or.inl ⟨by rfl, ?hy⟩) hcur ?_
        case hy =>
          intro w1 hSw
          replace hSw : Below W.heap.size W w1 := hSw
          (try (obtain ⟨x0, x1, x2, x3, x4⟩ := id (HQ.out.2.2.2.1.up hSw HQ.out.2.2.2.2.2.1); obtain ⟨y0, y1, y2, y3, y4⟩ := id (HQ.out.2.2.2.2.1.up hSw HQ.out.2.2.2.2.2.2); have ra' := (hSw.cell (p := ⟨wp, 0, none⟩) hwpl).trans ra; have rb' := (hSw.cell (p := ⟨wp, 1, none⟩) hwpl).trans rb; simp only [] at x0 x1 x2 x3 x4 y0 y1 y2 y3 y4))
          (try have hcD := conv_any (c := c) (H4.out.2.2.1.up hSw))
          go_simp
          (try with_reducible rfl)
        (try simp only [Act.put, List.getElem_toArray, List.getElem_cons_zero, List.getElem_cons_succ, List.setIfInBounds_toArray, List.set_cons_zero, List.set_cons_succ])
        refine wpAnyH_take (i := 11) (v := ?_) rfl (by decide +kernel) (by decide +kernel) (by decide +kernel) (fun _ _ _ h => h) (Or.inl ⟨by rfl, ?hy⟩) hcur ?_
        case hy =>
          intro w1 hSw
          replace hSw : Below W.heap.size W w1 := hSw
          (try (obtain ⟨x0, x1, x2, x3, x4⟩ := id (HQ.out.2.2.2.1.up hSw HQ.out.2.2.2.2.2.1); obtain ⟨y0, y1, y2, y3, y4⟩ := id (HQ.out.2.2.2.2.1.up hSw HQ.out.2.2.2.2.2.2); have ra' := (hSw.cell (p := ⟨wp, 0, none⟩) hwpl).trans ra; have rb' := (hSw.cell (p := ⟨wp, 1, none⟩) hwpl).trans rb; simp only [] at x0 x1 x2 x3 x4 y0 y1 y2 y3 y4))
          (try have hcD := conv_any (c := c) (H4.out.2.2.1.up hSw))
          go_simp
          (try with_reducible rfl)
        (try simp only [Act.put, List.getElem_toArray, List.getElem_cons_zero, List.getElem_cons_succ, List.setIfInBounds_toArray, List.set_cons_zero, List.set_cons_succ])
        refine wpAnyH_ready (rs := [12]) (by decide +kernel) (by simp) ?_
        refine AllReadyH.cons rfl (fun K hK => ?_) AllReadyH.nil
        go_simp
        refine (lives16_any _).mono ?_
        rintro e wn ⟨rfl, hbn⟩
        go_wp2_with fail
        refine hK.out _ _ (below_of hcur hbn) (fun _ => ?_)
        clear hK K
        replace hcur := below_of hcur hbn
        clear hbn
        (try simp only [Act.put, List.getElem_toArray, List.getElem_cons_zero, List.getElem_cons_succ, List.setIfInBounds_toArray, List.set_cons_zero, List.set_cons_succ])
        refine wpAnyH_take (i := 13) (v := ?_) rfl (by decide +kernel) (by decide +kernel) (by decide +kernel) (fun _ _ _ h => h) (Or.inl ⟨by rfl, ?hy⟩) hcur ?_
        case hy =>
          intro w1 hSw
          replace hSw : Below W.heap.size W w1 := hSw
          (try (obtain ⟨x0, x1, x2, x3, x4⟩ := id (HQ.out.2.2.2.1.up hSw HQ.out.2.2.2.2.2.1); obtain ⟨y0, y1, y2, y3, y4⟩ := id (HQ.out.2.2.2.2.1.up hSw HQ.out.2.2.2.2.2.2); have ra' := (hSw.cell (p := ⟨wp, 0, none⟩) hwpl).trans ra; have rb' := (hSw.cell (p := ⟨wp, 1, none⟩) hwpl).trans rb; simp only [] at x0 x1 x2 x3 x4 y0 y1 y2 y3 y4))
          (try have hcD := conv_any (c := c) (H4.out.2.2.1.up hSw))
          go_simp
          (try with_reducible rfl)
        (try simp only [Act.put, List.getElem_toArray, List.getElem_cons_zero, List.getElem_cons_succ, List.setIfInBounds_toArray, List.set_cons_zero, List.set_cons_succ])
        refine wpAnyH_take (i := 14) (v := ?_) rfl (by decide +kernel) (by decide +kernel) (by decide +kernel) (fun _ _ _ h => h) (Or.inl ⟨by rfl, ?hy⟩) hcur ?_
        case hy =>
          intro w1 hSw
          replace hSw : Below W.heap.size W w1 := hSw
          (try (obtain ⟨x0, x1, x2, x3, x4⟩ := id (HQ.out.2.2.2.1.up hSw HQ.out.2.2.2.2.2.1); obtain ⟨y0, y1, y2, y3, y4⟩ := id (HQ.out.2.2.2.2.1.up hSw HQ.out.2.2.2.2.2.2); have ra' := (hSw.cell (p := ⟨wp, 0, none⟩) hwpl).trans ra; have rb' := (hSw.cell (p := ⟨wp, 1, none⟩) hwpl).trans rb; simp only [] at x0 x1 x2 x3 x4 y0 y1 y2 y3 y4))
          (try have hcD := conv_any (c := c) (H4.out.2.2.1.up hSw))
          go_simp
          (try with_reducible rfl)
        (try simp only [Act.put, List.getElem_toArray, List.getElem_cons_zero, List.getElem_cons_succ, List.setIfInBounds_toArray, List.set_cons_zero, List.set_cons_succ])
        refine wpAnyH_done (by decide +kernel) ?_ _
        go_wp2_with fail
        go_ret
        exact ⟨rfl, below_of H4.out.2.2.2 hcur⟩
      · go_simp
        refine (eyeleft_any w.heap.size (srcOf A l) rest 0 _ (H4.out.2.1.below hcur) (by omega)).mono ?_
        rintro e wn2 ⟨rfl, rfl⟩
        go_wp2_with fail
        refine hK.out _ _ hcur (fun _ => ?_)
        clear hK K
        (try simp only [Act.put, List.getElem_toArray, List.getElem_cons_zero, List.getElem_cons_succ, List.setIfInBounds_toArray, List.set_cons_zero, List.set_cons_succ])
        refine wpAnyH_take (i := 7) (v := ?_) rfl (by decide +kernel) (by decide +kernel) (by decide +kernel) (fun _ _ _ h => h) (Or.inl ⟨by rfl, ?hy⟩) hcur ?_
        case hy =>
          intro w1 hSw
          replace hSw : Below W.heap.size W w1 := hSw
          (try (obtain ⟨x0, x1, x2, x3, x4⟩ := id (HQ.out.2.2.2.1.up hSw HQ.out.2.2.2.2.2.1); obtain ⟨y0, y1, y2, y3, y4⟩ := id (HQ.out.2.2.2.2.1.up hSw HQ.out.2.2.2.2.2.2); have ra' := (hSw.cell (p := ⟨wp, 0, none⟩) hwpl).trans ra; have rb' := (hSw.cell (p := ⟨wp, 1, none⟩) hwpl).trans rb; simp only [] at x0 x1 x2 x3 x4 y0 y1 y2 y3 y4))
          (try have hcD := conv_any (c := c) (H4.out.2.2.1.up hSw))
          go_simp
          (try with_reducible rfl)
        (try simp only [Act.put, List.getElem_toArray, List.getElem_cons_zero, List.getElem_cons_succ, List.setIfInBounds_toArray, List.set_cons_zero, List.set_cons_succ])
        refine wpAnyH_take (i := 8) (v := ?_) rfl (by decide +kernel) (by decide +kernel) (by decide +kernel) (fun _ _ _ h => h) (Or.inl ⟨by rfl, ?hy⟩) hcur ?_
        case hy =>
          intro w1 hSw
          replace hSw : Below W.heap.size W w1 := hSw
          (try (obtain ⟨x0, x1, x2, x3, x4⟩ := id (HQ.out.2.2.2.1.up hSw HQ.out.2.2.2.2.2.1); obtain ⟨y0, y1, y2, y3, y4⟩ := id (HQ.out.2.2.2.2.1.up hSw HQ.out.2.2.2.2.2.2); have ra' := (hSw.cell (p := ⟨wp, 0, none⟩) hwpl).trans ra; have rb' := (hSw.cell (p := ⟨wp, 1, none⟩) hwpl).trans rb; simp only [] at x0 x1 x2 x3 x4 y0 y1 y2 y3 y4))
          (try have hcD := conv_any (c := c) (H4.out.2.2.1.up hSw))
          go_simp
          (try with_reducible rfl)
        (try simp only [Act.put, List.getElem_toArray, List.getElem_cons_zero, List.getElem_cons_succ, List.setIfInBounds_toArray, List.set_cons_zero, List.set_cons_succ])
        refine wpAnyH_take (i := 9) (v := ?_) rfl (by decide +kernel) (by decide +kernel) (by decide +kernel) (fun _ _ _ h => h) (Or.inl ⟨by rfl, ?hy⟩) hcur ?_
        case hy =>
          intro w1 hSw
          replace hSw : Below W.heap.size W w1 := hSw
          (try (obtain ⟨x0, x1, x2, x3, x4⟩ := id (HQ.out.2.2.2.1.up hSw HQ.out.2.2.2.2.2.1); obtain ⟨y0, y1, y2, y3, y4⟩ := id (HQ.out.2.2.2.2.1.up hSw HQ.out.2.2.2.2.2.2); have ra' := (hSw.cell (p := ⟨wp, 0, none⟩) hwpl).trans ra; have rb' := (hSw.cell (p := ⟨wp, 1, none⟩) hwpl).trans rb; simp only [] at x0 x1 x2 x3 x4 y0 y1 y2 y3 y4))
          (try have hcD := conv_any (c := c) (H4.out.2.2.1.up hSw))
          go_simp
          (try with_reducible rfl)
        (try simp only [Act.put, List.getElem_toArray, List.getElem_cons_zero, List.getElem_cons_succ, List.setIfInBounds_toArray, List.set_cons_zero, List.set_cons_succ])
        refine wpAnyH_ready (rs := [1]) (by decide +kernel) (by simp) ?_
        refine AllReadyH.cons rfl (fun K hK => ?_) AllReadyH.nil
        go_simp
        refine hK.out _ _ hcur (fun _ => ?_)
        clear hK K
        (try simp only [Act.put, List.getElem_toArray, List.getElem_cons_zero, List.getElem_cons_succ, List.setIfInBounds_toArray, List.set_cons_zero, List.set_cons_succ])
        refine wpAnyH_take (i := 10) (v := ?_) rfl (by decide +kernel) (by decide +kernel) (by decide +kernel) (fun _ _ _ h => h) (Or.inl ⟨by rfl, ?hy⟩) hcur ?_
        case hy =>
          intro w1 hSw
          replace hSw : Below W.heap.size W w1 := hSw
          (try (obtain ⟨x0, x1, x2, x3, x4⟩ := id (HQ.out.2.2.2.1.up hSw HQ.out.2.2.2.2.2.1); obtain ⟨y0, y1, y2, y3, y4⟩ := id (HQ.out.2.2.2.2.1.up hSw HQ.out.2.2.2.2.2.2); have ra' := (hSw.cell (p := ⟨wp, 0, none⟩) hwpl).trans ra; have rb' := (hSw.cell (p := ⟨wp, 1, none⟩) hwpl).trans rb; simp only [] at x0 x1 x2 x3 x4 y0 y1 y2 y3 y4))
          (try have hcD := conv_any (c := c) (H4.out.2.2.1.up hSw))
          go_simp
          (try with_reducible rfl)
        (try simp only [Act.put, List.getElem_toArray, List.getElem_cons_zero, List.getElem_cons_succ, List.setIfInBounds_toArray, List.set_cons_zero, List.set_cons_succ])
        refine wpAnyH_take (i := 11) (v := ?_) rfl (by decide +kernel) (by decide +kernel) (by decide +kernel) (fun _ _ _ h => h) (Or.inl ⟨by rfl, ?hy⟩) hcur ?_
        case hy =>
          intro w1 hSw
          replace hSw : Below W.heap.size W w1 := hSw
          (try (obtain ⟨x0, x1, x2, x3, x4⟩ := id (HQ.out.2.2.2.1.up hSw HQ.out.2.2.2.2.2.1); obtain ⟨y0, y1, y2, y3, y4⟩ := id (HQ.out.2.2.2.2.1.up hSw HQ.out.2.2.2.2.2.2); have ra' := (hSw.cell (p := ⟨wp, 0, none⟩) hwpl).trans ra; have rb' := (hSw.cell (p := ⟨wp, 1, none⟩) hwpl).trans rb; simp only [] at x0 x1 x2 x3 x4 y0 y1 y2 y3 y4))
          (try have hcD := conv_any (c := c) (H4.out.2.2.1.up hSw))
          go_simp
          (try with_reducible rfl)
        (try simp only [Act.put, List.getElem_toArray, List.getElem_cons_zero, List.getElem_cons_succ, List.setIfInBounds_toArray, List.set_cons_zero, List.set_cons_succ])
        refine wpAnyH_ready (rs := [12]) (by decide +kernel) (by simp) ?_
        refine AllReadyH.cons rfl (fun K hK => ?_) AllReadyH.nil
        go_simp
        refine (lives16_any _).mono ?_
        rintro e wn ⟨rfl, hbn⟩
        go_wp2_with fail
        refine hK.out _ _ (below_of hcur hbn) (fun _ => ?_)
        clear hK K
        replace hcur := below_of hcur hbn
        clear hbn
        (try simp only [Act.put, List.getElem_toArray, List.getElem_cons_zero, List.getElem_cons_succ, List.setIfInBounds_toArray, List.set_cons_zero, List.set_cons_succ])
        refine wpAnyH_take (i := 13) (v := ?_) rfl (by decide +kernel) (by decide +kernel) (by decide +kernel) (fun _ _ _ h => h) (Or.inl ⟨by rfl, ?hy⟩) hcur ?_
        case hy =>
          intro w1 hSw
          replace hSw : Below W.heap.size W w1 := hSw
          (try (obtain ⟨x0, x1, x2, x3, x4⟩ := id (HQ.out.2.2.2.1.up hSw HQ.out.2.2.2.2.2.1); obtain ⟨y0, y1, y2, y3, y4⟩ := id (HQ.out.2.2.2.2.1.up hSw HQ.out.2.2.2.2.2.2); have ra' := (hSw.cell (p := ⟨wp, 0, none⟩) hwpl).trans ra; have rb' := (hSw.cell (p := ⟨wp, 1, none⟩) hwpl).trans rb; simp only [] at x0 x1 x2 x3 x4 y0 y1 y2 y3 y4))
          (try have hcD := conv_any (c := c) (H4.out.2.2.1.up hSw))
          go_simp
          (try with_reducible rfl)
        (try simp only [Act.put, List.getElem_toArray, List.getElem_cons_zero, List.getElem_cons_succ, List.setIfInBounds_toArray, List.set_cons_zero, List.set_cons_succ])
        refine wpAnyH_take (i := 14) (v := ?_) rfl (by decide +kernel) (by decide +kernel) (by decide +kernel) (fun _ _ _ h => h) (Or.inl ⟨by rfl, ?hy⟩) hcur ?_
        case hy =>
          intro w1 hSw
          replace hSw : Below W.heap.size W w1 := hSw
          (try (obtain ⟨x0, x1, x2, x3, x4⟩ := id (HQ.out.2.2.2.1.up hSw HQ.out.2.2.2.2.2.1); obtain ⟨y0, y1, y2, y3, y4⟩ := id (HQ.out.2.2.2.2.1.up hSw HQ.out.2.2.2.2.2.2); have ra' := (hSw.cell (p := ⟨wp, 0, none⟩) hwpl).trans ra; have rb' := (hSw.cell (p := ⟨wp, 1, none⟩) hwpl).trans rb; simp only [] at x0 x1 x2 x3 x4 y0 y1 y2 y3 y4))
          (try have hcD := conv_any (c := c) (H4.out.2.2.1.up hSw))
          go_simp
          (try with_reducible rfl)
        (try simp only [Act.put, List.getElem_toArray, List.getElem_cons_zero, List.getElem_cons_succ, List.setIfInBounds_toArray, List.set_cons_zero, List.set_cons_succ])
        refine wpAnyH_done (by decide +kernel) ?_ _
        go_wp2_with fail
        go_ret
        exact ⟨rfl, below_of H4.out.2.2.2 hcur⟩

end Go.Proofs.Ythbafbgnclpbpaa
