/- The law AnswerTells: the walk. -/
import Derived.Test.YthbafbgnclpbpaaAns5
namespace Go.Proofs.Ythbafbgnclpbpaa
open Go.RowKit

/-- Two answers in variables. -/
structure TwoAns (w W : World) (a b : AnsD) (A B : Option Addr) (c d : Nat) : Prop where
  one : AnsAt W w.heap.size a A c
  two : AnsAt W (w.heap.size + 1) b B d
  sz : w.heap.size + 1 < W.heap.size
  pa : Prs W A a.pairs.length a.pairs
  pb : Prs W B b.pairs.length b.pairs
  bel : Below w.heap.size w W
theorem TwoAns.up {w W W' : World} {a b : AnsD} {A B : Option Addr} {c d : Nat} (h : TwoAns w W a b A B c d) (hb : Below W.heap.size W W') : TwoAns w W' a b A B c d :=
  ⟨h.one.up hb (by have := h.sz; omega), h.two.up hb h.sz, Nat.lt_of_lt_of_le h.sz hb.size, h.pa.up hb, h.pb.up hb, below_of h.bel hb⟩
theorem ansB_self (a : AnsD) : ansB a a = true := by simp [ansB]

set_option maxRecDepth 100000 in
set_option maxHeartbeats 16000000 in
theorem answertells_any (a b : AnsD) (A B : Option Addr) (c d : Nat) (ok : Bool) (w : World) (h : Prs w A a.pairs.length a.pairs) (k : Prs w B b.pairs.length b.pairs) (ha : AnsOk a) (hb : AnsOk b) :
    Calls Try.prog 3 #[.agg (ansCells a A c), .agg (ansCells b B d), .bool ok] w (Ret (.bool true) w) := by
  obtain ⟨hn1, hn2, hbl, hsz⟩ := ans_two w a b A B c d 25
  have HT := Lib.hid (show TwoAns w _ a b A B c d from ⟨hn1, hn2, hsz, h.up hbl, k.up hbl, hbl⟩)
  have HLa := Lib.hid (fun W hW => light17_any a A c W hW ha)
  have HLb := Lib.hid (fun W hW => light17_any b B d W hW hb)
  have HC := Lib.hid (fun W hW => anscheck_any a A c W hW ha)
  have HSo := Lib.hid (fun W hW => refsound17_any a A c W hW ha)
  have HSm := Lib.hid (fun W hW hW' => anssame_any a b A B c d W hW hW' ha.len)
  have HSr := Lib.hid (fun W hW hW' => refsame17_any a b A B c d W hW hW' ha.len)
  have HSa := Lib.hid (fun W hW => Calls.as_ (anssame_any a a A A c c W hW hW ha.len) (congrArg Value.bool (ansB_self a)))
  clear hn1 hn2 hbl hsz h k ha hb
  generalize lightA a = la at HLa
  generalize lightA b = lb at HLb
  generalize sndA a = s at HC HSo
  generalize ansB a b = sm at HSm HSr
  obtain ⟨code, key, val, pairs⟩ := a
  obtain ⟨code', key', val', pairs'⟩ := b
  simp only [ansCells] at HT HLa HLb HC HSo HSm HSr HSa ⊢
  go_enter Try.func3, Try.ntmps3
  go_upto_region 1 with fail
  generalize (w.alloc _).alloc _ = W at HT ⊢
  obtain ⟨x0, x1, x2, x3⟩ := HT.out.one
  obtain ⟨y0, y1, y2, y3⟩ := HT.out.two
  simp only [] at x0 x1 x2 x3 y0 y1 y2 y3
  go_wp2_with fail
  refine (HLa.out _ HT.out.pa).mono ?_
  rintro e W1 ⟨rfl, hbn⟩
  clear x0 x1 x2 x3 y0 y1 y2 y3
  replace HT := Lib.hid (HT.out.up hbn)
  clear hbn
  cases la
  · go_wp2_with fail
    refine (lives17_any _).mono ?_
    rintro e w2 ⟨rfl, hb2⟩
    go_wp2_with fail
    go_ret
    exact ⟨rfl, below_of HT.out.bel hb2⟩
  · obtain ⟨x0, x1, x2, x3⟩ := HT.out.one
    obtain ⟨y0, y1, y2, y3⟩ := HT.out.two
    simp only [] at x0 x1 x2 x3 y0 y1 y2 y3
    go_wp2_with fail
    refine (HLb.out _ HT.out.pb).mono ?_
    rintro e W2 ⟨rfl, hbn⟩
    clear x0 x1 x2 x3 y0 y1 y2 y3
    replace HT := Lib.hid (HT.out.up hbn)
    clear hbn
    cases lb
    · go_wp2_with fail
      refine (lives17_any _).mono ?_
      rintro e w2 ⟨rfl, hb2⟩
      go_wp2_with fail
      go_ret
      exact ⟨rfl, below_of HT.out.bel hb2⟩
    · cases s
      · have HC0 := Lib.hid (fun W hW => Calls.as_ (HC.out W hW) (congrArg (Value.int .i64) (if_neg Bool.false_ne_true)))
        clear HC
        obtain ⟨x0, x1, x2, x3⟩ := HT.out.one
        obtain ⟨y0, y1, y2, y3⟩ := HT.out.two
        simp only [] at x0 x1 x2 x3 y0 y1 y2 y3
        go_wp2_with fail
        refine (HC0.out _ HT.out.pa).mono ?_
        rintro e W3 ⟨rfl, hbn⟩
        clear x0 x1 x2 x3 y0 y1 y2 y3
        replace HT := Lib.hid (HT.out.up hbn)
        clear hbn
        obtain ⟨x0, x1, x2, x3⟩ := HT.out.one
        obtain ⟨y0, y1, y2, y3⟩ := HT.out.two
        simp only [] at x0 x1 x2 x3 y0 y1 y2 y3
        cases ok
        · go_wp2_with fail
          refine (ansof_any ⟨key, val⟩ false _).mono ?_
          rintro e W4 ⟨rfl, hbn⟩
          clear x0 x1 x2 x3 y0 y1 y2 y3
          replace HT := Lib.hid (HT.out.up hbn)
          clear hbn
          have e2 : ansCells (ofA ⟨key, val⟩ false) none 0 = #[.int .i64 2, .string ⟨#[]⟩, .int .u64 0, .slice none 0 0] := rfl
          rw [e2]
          clear e2
          have hx := AnsAt.new W4 ⟨2, ⟨#[]⟩, 0, []⟩ none 0 25
          have hgt : W4.heap.size < (W4.alloc (.cells (ansCells ⟨2, ⟨#[]⟩, 0, []⟩ none 0) 25)).heap.size := by simp
          replace HT := Lib.hid (HT.out.up (below_alloc W4 (.cells (ansCells ⟨2, ⟨#[]⟩, 0, []⟩ none 0) 25)))
          simp only [ansCells] at hx hgt HT
          go_upto_region 5 with fail
          generalize W4.alloc _ = W5 at HT hx hgt ⊢
          generalize W4.heap.size = g8 at hx hgt ⊢
          obtain ⟨x0, x1, x2, x3⟩ := HT.out.one
          obtain ⟨y0, y1, y2, y3⟩ := HT.out.two
          simp only [] at x0 x1 x2 x3 y0 y1 y2 y3
          obtain ⟨z0, z1, z2, z3⟩ := hx
          simp only [List.length_nil] at z0 z1 z2 z3
          go_wp2_with fail
          refine (Calls.as_ (refsame17_any ⟨2, ⟨#[]⟩, 0, []⟩ ⟨2, ⟨#[]⟩, 0, []⟩ none none 0 0 _ (prs_nil _ _) (prs_nil _ _) (Nat.zero_le _)) (congrArg Value.bool (ansB_self _))).mono ?_
          rintro e W ⟨rfl, hbn⟩
          clear z0 z1 z2 z3
          clear x0 x1 x2 x3 y0 y1 y2 y3
          replace HT := Lib.hid (HT.out.up hbn)
          clear hbn
          go_upto_region 7 with fail
          refine wp_region_held_drew (S := fun w' => Below W.heap.size W w') (by kernel_rfl) (Below.drew (Below.refl _ _)) (fun hcur => ?_)
          replace hcur : Below W.heap.size W W.drew := hcur
          refine wpAnyH_take (i := 0) (v := ?_) rfl (by decide +kernel) (by decide +kernel) (by decide +kernel) (fun _ _ _ h => h) (Or.inl ⟨by rfl, ?hy⟩) hcur ?_
          case hy =>
            intro w1 hSw
            replace hSw : Below W.heap.size W w1 := hSw
            obtain ⟨x0, x1, x2, x3⟩ := (HT.out.up hSw).one
            obtain ⟨y0, y1, y2, y3⟩ := (HT.out.up hSw).two
            simp only [] at x0 x1 x2 x3 y0 y1 y2 y3
            go_simp
            (try with_reducible rfl)
          (try simp only [Act.put, List.getElem_toArray, List.getElem_cons_zero, List.getElem_cons_succ, List.setIfInBounds_toArray, List.set_cons_zero, List.set_cons_succ])
          refine wpAnyH_take (i := 1) (v := ?_) rfl (by decide +kernel) (by decide +kernel) (by decide +kernel) (fun _ _ _ h => h) (Or.inl ⟨by rfl, ?hy⟩) hcur ?_
          case hy =>
            intro w1 hSw
            replace hSw : Below W.heap.size W w1 := hSw
            obtain ⟨x0, x1, x2, x3⟩ := (HT.out.up hSw).one
            obtain ⟨y0, y1, y2, y3⟩ := (HT.out.up hSw).two
            simp only [] at x0 x1 x2 x3 y0 y1 y2 y3
            go_simp
            (try with_reducible rfl)
          (try simp only [Act.put, List.getElem_toArray, List.getElem_cons_zero, List.getElem_cons_succ, List.setIfInBounds_toArray, List.set_cons_zero, List.set_cons_succ])
          refine wpAnyH_take (i := 2) (v := ?_) rfl (by decide +kernel) (by decide +kernel) (by decide +kernel) (fun _ _ _ h => h) (Or.inl ⟨by rfl, ?hy⟩) hcur ?_
          case hy =>
            intro w1 hSw
            replace hSw : Below W.heap.size W w1 := hSw
            obtain ⟨x0, x1, x2, x3⟩ := (HT.out.up hSw).one
            obtain ⟨y0, y1, y2, y3⟩ := (HT.out.up hSw).two
            simp only [] at x0 x1 x2 x3 y0 y1 y2 y3
            go_simp
            (try with_reducible rfl)
          (try simp only [Act.put, List.getElem_toArray, List.getElem_cons_zero, List.getElem_cons_succ, List.setIfInBounds_toArray, List.set_cons_zero, List.set_cons_succ])
          refine wpAnyH_ready (rs := [3]) (by decide +kernel) (by simp) ?_
          refine AllReadyH.cons rfl (fun K hK => ?_) AllReadyH.nil
          go_simp
          refine (HSo.out _ (HT.out.up hcur).pa).mono ?_
          rintro e wn ⟨rfl, hbn⟩
          go_wp2_with fail
          refine hK.out _ _ (below_of hcur hbn) (fun _ => ?_)
          clear hK K
          replace hcur := below_of hcur hbn
          clear hbn
          (try simp only [Act.put, List.getElem_toArray, List.getElem_cons_zero, List.getElem_cons_succ, List.setIfInBounds_toArray, List.set_cons_zero, List.set_cons_succ])
          refine wpAnyH_take (i := 4) (v := ?_) rfl (by decide +kernel) (by decide +kernel) (by decide +kernel) (fun _ _ _ h => h) (Or.inl ⟨by rfl, ?hy⟩) hcur ?_
          case hy =>
            intro w1 hSw
            replace hSw : Below W.heap.size W w1 := hSw
            obtain ⟨x0, x1, x2, x3⟩ := (HT.out.up hSw).one
            obtain ⟨y0, y1, y2, y3⟩ := (HT.out.up hSw).two
            simp only [] at x0 x1 x2 x3 y0 y1 y2 y3
            go_simp
            (try with_reducible rfl)
          (try simp only [Act.put, List.getElem_toArray, List.getElem_cons_zero, List.getElem_cons_succ, List.setIfInBounds_toArray, List.set_cons_zero, List.set_cons_succ])
          refine wpAnyH_take (i := 5) (v := ?_) rfl (by decide +kernel) (by decide +kernel) (by decide +kernel) (fun _ _ _ h => h) (Or.inl ⟨by rfl, ?hy⟩) hcur ?_
          case hy =>
            intro w1 hSw
            replace hSw : Below W.heap.size W w1 := hSw
            obtain ⟨x0, x1, x2, x3⟩ := (HT.out.up hSw).one
            obtain ⟨y0, y1, y2, y3⟩ := (HT.out.up hSw).two
            simp only [] at x0 x1 x2 x3 y0 y1 y2 y3
            go_simp
            (try with_reducible rfl)
          (try simp only [Act.put, List.getElem_toArray, List.getElem_cons_zero, List.getElem_cons_succ, List.setIfInBounds_toArray, List.set_cons_zero, List.set_cons_succ])
          refine wpAnyH_take (i := 6) (v := ?_) rfl (by decide +kernel) (by decide +kernel) (by decide +kernel) (fun _ _ _ h => h) (Or.inl ⟨by rfl, ?hy⟩) hcur ?_
          case hy =>
            intro w1 hSw
            replace hSw : Below W.heap.size W w1 := hSw
            obtain ⟨x0, x1, x2, x3⟩ := (HT.out.up hSw).one
            obtain ⟨y0, y1, y2, y3⟩ := (HT.out.up hSw).two
            simp only [] at x0 x1 x2 x3 y0 y1 y2 y3
            go_simp
            (try with_reducible rfl)
          (try simp only [Act.put, List.getElem_toArray, List.getElem_cons_zero, List.getElem_cons_succ, List.setIfInBounds_toArray, List.set_cons_zero, List.set_cons_succ])
          refine wpAnyH_take (i := 7) (v := ?_) rfl (by decide +kernel) (by decide +kernel) (by decide +kernel) (fun _ _ _ h => h) (Or.inl ⟨by rfl, ?hy⟩) hcur ?_
          case hy =>
            intro w1 hSw
            replace hSw : Below W.heap.size W w1 := hSw
            obtain ⟨x0, x1, x2, x3⟩ := (HT.out.up hSw).one
            obtain ⟨y0, y1, y2, y3⟩ := (HT.out.up hSw).two
            simp only [] at x0 x1 x2 x3 y0 y1 y2 y3
            go_simp
            (try with_reducible rfl)
          (try simp only [Act.put, List.getElem_toArray, List.getElem_cons_zero, List.getElem_cons_succ, List.setIfInBounds_toArray, List.set_cons_zero, List.set_cons_succ])
          refine wpAnyH_take (i := 8) (v := ?_) rfl (by decide +kernel) (by decide +kernel) (by decide +kernel) (fun _ _ _ h => h) (Or.inl ⟨by rfl, ?hy⟩) hcur ?_
          case hy =>
            intro w1 hSw
            replace hSw : Below W.heap.size W w1 := hSw
            obtain ⟨x0, x1, x2, x3⟩ := (HT.out.up hSw).one
            obtain ⟨y0, y1, y2, y3⟩ := (HT.out.up hSw).two
            simp only [] at x0 x1 x2 x3 y0 y1 y2 y3
            go_simp
            (try with_reducible rfl)
          (try simp only [Act.put, List.getElem_toArray, List.getElem_cons_zero, List.getElem_cons_succ, List.setIfInBounds_toArray, List.set_cons_zero, List.set_cons_succ])
          refine wpAnyH_take (i := 9) (v := ?_) rfl (by decide +kernel) (by decide +kernel) (by decide +kernel) (fun _ _ _ h => h) (Or.inl ⟨by rfl, ?hy⟩) hcur ?_
          case hy =>
            intro w1 hSw
            replace hSw : Below W.heap.size W w1 := hSw
            obtain ⟨x0, x1, x2, x3⟩ := (HT.out.up hSw).one
            obtain ⟨y0, y1, y2, y3⟩ := (HT.out.up hSw).two
            simp only [] at x0 x1 x2 x3 y0 y1 y2 y3
            go_simp
            (try with_reducible rfl)
          (try simp only [Act.put, List.getElem_toArray, List.getElem_cons_zero, List.getElem_cons_succ, List.setIfInBounds_toArray, List.set_cons_zero, List.set_cons_succ])
          refine wpAnyH_take (i := 10) (v := ?_) rfl (by decide +kernel) (by decide +kernel) (by decide +kernel) (fun _ _ _ h => h) (Or.inl ⟨by rfl, ?hy⟩) hcur ?_
          case hy =>
            intro w1 hSw
            replace hSw : Below W.heap.size W w1 := hSw
            obtain ⟨x0, x1, x2, x3⟩ := (HT.out.up hSw).one
            obtain ⟨y0, y1, y2, y3⟩ := (HT.out.up hSw).two
            simp only [] at x0 x1 x2 x3 y0 y1 y2 y3
            go_simp
            (try with_reducible rfl)
          (try simp only [Act.put, List.getElem_toArray, List.getElem_cons_zero, List.getElem_cons_succ, List.setIfInBounds_toArray, List.set_cons_zero, List.set_cons_succ])
          refine wpAnyH_take (i := 11) (v := ?_) rfl (by decide +kernel) (by decide +kernel) (by decide +kernel) (fun _ _ _ h => h) (Or.inl ⟨by rfl, ?hy⟩) hcur ?_
          case hy =>
            intro w1 hSw
            replace hSw : Below W.heap.size W w1 := hSw
            obtain ⟨x0, x1, x2, x3⟩ := (HT.out.up hSw).one
            obtain ⟨y0, y1, y2, y3⟩ := (HT.out.up hSw).two
            simp only [] at x0 x1 x2 x3 y0 y1 y2 y3
            go_simp
            (try with_reducible rfl)
          (try simp only [Act.put, List.getElem_toArray, List.getElem_cons_zero, List.getElem_cons_succ, List.setIfInBounds_toArray, List.set_cons_zero, List.set_cons_succ])
          refine wpAnyH_take (i := 12) (v := ?_) rfl (by decide +kernel) (by decide +kernel) (by decide +kernel) (fun _ _ _ h => h) (Or.inl ⟨by rfl, ?hy⟩) hcur ?_
          case hy =>
            intro w1 hSw
            replace hSw : Below W.heap.size W w1 := hSw
            obtain ⟨x0, x1, x2, x3⟩ := (HT.out.up hSw).one
            obtain ⟨y0, y1, y2, y3⟩ := (HT.out.up hSw).two
            simp only [] at x0 x1 x2 x3 y0 y1 y2 y3
            go_simp
            (try with_reducible rfl)
          (try simp only [Act.put, List.getElem_toArray, List.getElem_cons_zero, List.getElem_cons_succ, List.setIfInBounds_toArray, List.set_cons_zero, List.set_cons_succ])
          refine wpAnyH_take (i := 13) (v := ?_) rfl (by decide +kernel) (by decide +kernel) (by decide +kernel) (fun _ _ _ h => h) (Or.inl ⟨by rfl, ?hy⟩) hcur ?_
          case hy =>
            intro w1 hSw
            replace hSw : Below W.heap.size W w1 := hSw
            obtain ⟨x0, x1, x2, x3⟩ := (HT.out.up hSw).one
            obtain ⟨y0, y1, y2, y3⟩ := (HT.out.up hSw).two
            simp only [] at x0 x1 x2 x3 y0 y1 y2 y3
            go_simp
            (try with_reducible rfl)
          (try simp only [Act.put, List.getElem_toArray, List.getElem_cons_zero, List.getElem_cons_succ, List.setIfInBounds_toArray, List.set_cons_zero, List.set_cons_succ])
          refine wpAnyH_take (i := 14) (v := ?_) rfl (by decide +kernel) (by decide +kernel) (by decide +kernel) (fun _ _ _ h => h) (Or.inl ⟨by rfl, ?hy⟩) hcur ?_
          case hy =>
            intro w1 hSw
            replace hSw : Below W.heap.size W w1 := hSw
            obtain ⟨x0, x1, x2, x3⟩ := (HT.out.up hSw).one
            obtain ⟨y0, y1, y2, y3⟩ := (HT.out.up hSw).two
            simp only [] at x0 x1 x2 x3 y0 y1 y2 y3
            go_simp
            (try with_reducible rfl)
          (try simp only [Act.put, List.getElem_toArray, List.getElem_cons_zero, List.getElem_cons_succ, List.setIfInBounds_toArray, List.set_cons_zero, List.set_cons_succ])
          refine wpAnyH_take (i := 15) (v := ?_) rfl (by decide +kernel) (by decide +kernel) (by decide +kernel) (fun _ _ _ h => h) (Or.inl ⟨by rfl, ?hy⟩) hcur ?_
          case hy =>
            intro w1 hSw
            replace hSw : Below W.heap.size W w1 := hSw
            obtain ⟨x0, x1, x2, x3⟩ := (HT.out.up hSw).one
            obtain ⟨y0, y1, y2, y3⟩ := (HT.out.up hSw).two
            simp only [] at x0 x1 x2 x3 y0 y1 y2 y3
            go_simp
            (try with_reducible rfl)
          (try simp only [Act.put, List.getElem_toArray, List.getElem_cons_zero, List.getElem_cons_succ, List.setIfInBounds_toArray, List.set_cons_zero, List.set_cons_succ])
          refine wpAnyH_take (i := 17) (v := ?_) rfl (by decide +kernel) (by decide +kernel) (by decide +kernel) (fun _ _ _ h => h) (Or.inl ⟨by rfl, ?hy⟩) hcur ?_
          case hy =>
            intro w1 hSw
            replace hSw : Below W.heap.size W w1 := hSw
            obtain ⟨x0, x1, x2, x3⟩ := (HT.out.up hSw).one
            obtain ⟨y0, y1, y2, y3⟩ := (HT.out.up hSw).two
            simp only [] at x0 x1 x2 x3 y0 y1 y2 y3
            go_simp
            (try with_reducible rfl)
          (try simp only [Act.put, List.getElem_toArray, List.getElem_cons_zero, List.getElem_cons_succ, List.setIfInBounds_toArray, List.set_cons_zero, List.set_cons_succ])
          refine wpAnyH_take (i := 18) (v := ?_) rfl (by decide +kernel) (by decide +kernel) (by decide +kernel) (fun _ _ _ h => h) (Or.inl ⟨by rfl, ?hy⟩) hcur ?_
          case hy =>
            intro w1 hSw
            replace hSw : Below W.heap.size W w1 := hSw
            obtain ⟨x0, x1, x2, x3⟩ := (HT.out.up hSw).one
            obtain ⟨y0, y1, y2, y3⟩ := (HT.out.up hSw).two
            simp only [] at x0 x1 x2 x3 y0 y1 y2 y3
            go_simp
            (try with_reducible rfl)
          (try simp only [Act.put, List.getElem_toArray, List.getElem_cons_zero, List.getElem_cons_succ, List.setIfInBounds_toArray, List.set_cons_zero, List.set_cons_succ])
          refine wpAnyH_ready (rs := [16]) (by decide +kernel) (by simp) ?_
          refine AllReadyH.cons rfl (fun K hK => ?_) AllReadyH.nil
          go_simp
          refine (HSm.out _ (HT.out.up hcur).pa (HT.out.up hcur).pb).mono ?_
          rintro e wn ⟨rfl, hbn⟩
          go_wp2_with fail
          refine hK.out _ _ (below_of hcur hbn) (fun _ => ?_)
          clear hK K
          replace hcur := below_of hcur hbn
          clear hbn
          (try simp only [Act.put, List.getElem_toArray, List.getElem_cons_zero, List.getElem_cons_succ, List.setIfInBounds_toArray, List.set_cons_zero, List.set_cons_succ])
          refine wpAnyH_ready (rs := [19]) (by decide +kernel) (by simp) ?_
          refine AllReadyH.cons rfl (fun K hK => ?_) AllReadyH.nil
          go_simp
          refine (HSr.out _ (HT.out.up hcur).pa (HT.out.up hcur).pb).mono ?_
          rintro e wn ⟨rfl, hbn⟩
          go_wp2_with fail
          refine hK.out _ _ (below_of hcur hbn) (fun _ => ?_)
          clear hK K
          replace hcur := below_of hcur hbn
          clear hbn
          (try simp only [Act.put, List.getElem_toArray, List.getElem_cons_zero, List.getElem_cons_succ, List.setIfInBounds_toArray, List.set_cons_zero, List.set_cons_succ])
          refine wpAnyH_take (i := 20) (v := ?_) rfl (by decide +kernel) (by decide +kernel) (by decide +kernel) (fun _ _ _ h => h) (Or.inl ⟨by rfl, ?hy⟩) hcur ?_
          case hy =>
            intro w1 hSw
            replace hSw : Below W.heap.size W w1 := hSw
            obtain ⟨x0, x1, x2, x3⟩ := (HT.out.up hSw).one
            obtain ⟨y0, y1, y2, y3⟩ := (HT.out.up hSw).two
            simp only [] at x0 x1 x2 x3 y0 y1 y2 y3
            go_simp
            (try with_reducible rfl)
          (try simp only [Act.put, List.getElem_toArray, List.getElem_cons_zero, List.getElem_cons_succ, List.setIfInBounds_toArray, List.set_cons_zero, List.set_cons_succ])
          refine wpAnyH_take (i := 21) (v := ?_) rfl (by decide +kernel) (by decide +kernel) (by decide +kernel) (fun _ _ _ h => h) (Or.inl ⟨by rfl, ?hy⟩) hcur ?_
          case hy =>
            intro w1 hSw
            replace hSw : Below W.heap.size W w1 := hSw
            obtain ⟨x0, x1, x2, x3⟩ := (HT.out.up hSw).one
            obtain ⟨y0, y1, y2, y3⟩ := (HT.out.up hSw).two
            simp only [] at x0 x1 x2 x3 y0 y1 y2 y3
            go_simp
            (try with_reducible rfl)
          (try simp only [Act.put, List.getElem_toArray, List.getElem_cons_zero, List.getElem_cons_succ, List.setIfInBounds_toArray, List.set_cons_zero, List.set_cons_succ])
          refine wpAnyH_take (i := 22) (v := ?_) rfl (by decide +kernel) (by decide +kernel) (by decide +kernel) (fun _ _ _ h => h) (Or.inl ⟨by rfl, ?hy⟩) hcur ?_
          case hy =>
            intro w1 hSw
            replace hSw : Below W.heap.size W w1 := hSw
            obtain ⟨x0, x1, x2, x3⟩ := (HT.out.up hSw).one
            obtain ⟨y0, y1, y2, y3⟩ := (HT.out.up hSw).two
            simp only [] at x0 x1 x2 x3 y0 y1 y2 y3
            go_simp
            (try with_reducible rfl)
          (try simp only [Act.put, List.getElem_toArray, List.getElem_cons_zero, List.getElem_cons_succ, List.setIfInBounds_toArray, List.set_cons_zero, List.set_cons_succ])
          refine wpAnyH_take (i := 23) (v := ?_) rfl (by decide +kernel) (by decide +kernel) (by decide +kernel) (fun _ _ _ h => h) (Or.inl ⟨by rfl, ?hy⟩) hcur ?_
          case hy =>
            intro w1 hSw
            replace hSw : Below W.heap.size W w1 := hSw
            obtain ⟨x0, x1, x2, x3⟩ := (HT.out.up hSw).one
            obtain ⟨y0, y1, y2, y3⟩ := (HT.out.up hSw).two
            simp only [] at x0 x1 x2 x3 y0 y1 y2 y3
            go_simp
            (try with_reducible rfl)
          (try simp only [Act.put, List.getElem_toArray, List.getElem_cons_zero, List.getElem_cons_succ, List.setIfInBounds_toArray, List.set_cons_zero, List.set_cons_succ])
          refine wpAnyH_take (i := 24) (v := ?_) rfl (by decide +kernel) (by decide +kernel) (by decide +kernel) (fun _ _ _ h => h) (Or.inl ⟨by rfl, ?hy⟩) hcur ?_
          case hy =>
            intro w1 hSw
            replace hSw : Below W.heap.size W w1 := hSw
            obtain ⟨x0, x1, x2, x3⟩ := (HT.out.up hSw).one
            obtain ⟨y0, y1, y2, y3⟩ := (HT.out.up hSw).two
            simp only [] at x0 x1 x2 x3 y0 y1 y2 y3
            go_simp
            (try with_reducible rfl)
          (try simp only [Act.put, List.getElem_toArray, List.getElem_cons_zero, List.getElem_cons_succ, List.setIfInBounds_toArray, List.set_cons_zero, List.set_cons_succ])
          refine wpAnyH_ready (rs := [25]) (by decide +kernel) (by simp) ?_
          refine AllReadyH.cons rfl (fun K hK => ?_) AllReadyH.nil
          go_simp
          refine (HSa.out _ (HT.out.up hcur).pa).mono ?_
          rintro e wn ⟨rfl, hbn⟩
          go_wp2_with fail
          refine hK.out _ _ (below_of hcur hbn) (fun _ => ?_)
          clear hK K
          replace hcur := below_of hcur hbn
          clear hbn
          (try simp only [Act.put, List.getElem_toArray, List.getElem_cons_zero, List.getElem_cons_succ, List.setIfInBounds_toArray, List.set_cons_zero, List.set_cons_succ])
          refine wpAnyH_take (i := 26) (v := ?_) rfl (by decide +kernel) (by decide +kernel) (by decide +kernel) (fun _ _ _ h => h) (Or.inl ⟨by rfl, ?hy⟩) hcur ?_
          case hy =>
            intro w1 hSw
            replace hSw : Below W.heap.size W w1 := hSw
            obtain ⟨x0, x1, x2, x3⟩ := (HT.out.up hSw).one
            obtain ⟨y0, y1, y2, y3⟩ := (HT.out.up hSw).two
            simp only [] at x0 x1 x2 x3 y0 y1 y2 y3
            go_simp
            (try with_reducible rfl)
          (try simp only [Act.put, List.getElem_toArray, List.getElem_cons_zero, List.getElem_cons_succ, List.setIfInBounds_toArray, List.set_cons_zero, List.set_cons_succ])
          refine wpAnyH_take (i := 27) (v := ?_) rfl (by decide +kernel) (by decide +kernel) (by decide +kernel) (fun _ _ _ h => h) (Or.inl ⟨by rfl, ?hy⟩) hcur ?_
          case hy =>
            intro w1 hSw
            replace hSw : Below W.heap.size W w1 := hSw
            obtain ⟨x0, x1, x2, x3⟩ := (HT.out.up hSw).one
            obtain ⟨y0, y1, y2, y3⟩ := (HT.out.up hSw).two
            simp only [] at x0 x1 x2 x3 y0 y1 y2 y3
            go_simp
            (try with_reducible rfl)
          (try simp only [Act.put, List.getElem_toArray, List.getElem_cons_zero, List.getElem_cons_succ, List.setIfInBounds_toArray, List.set_cons_zero, List.set_cons_succ])
          refine wpAnyH_take (i := 28) (v := ?_) rfl (by decide +kernel) (by decide +kernel) (by decide +kernel) (fun _ _ _ h => h) (Or.inl ⟨by rfl, ?hy⟩) hcur ?_
          case hy =>
            intro w1 hSw
            replace hSw : Below W.heap.size W w1 := hSw
            obtain ⟨x0, x1, x2, x3⟩ := (HT.out.up hSw).one
            obtain ⟨y0, y1, y2, y3⟩ := (HT.out.up hSw).two
            simp only [] at x0 x1 x2 x3 y0 y1 y2 y3
            go_simp
            (try with_reducible rfl)
          (try simp only [Act.put, List.getElem_toArray, List.getElem_cons_zero, List.getElem_cons_succ, List.setIfInBounds_toArray, List.set_cons_zero, List.set_cons_succ])
          refine wpAnyH_take (i := 29) (v := ?_) rfl (by decide +kernel) (by decide +kernel) (by decide +kernel) (fun _ _ _ h => h) (Or.inl ⟨by rfl, ?hy⟩) hcur ?_
          case hy =>
            intro w1 hSw
            replace hSw : Below W.heap.size W w1 := hSw
            obtain ⟨x0, x1, x2, x3⟩ := (HT.out.up hSw).one
            obtain ⟨y0, y1, y2, y3⟩ := (HT.out.up hSw).two
            simp only [] at x0 x1 x2 x3 y0 y1 y2 y3
            go_simp
            (try with_reducible rfl)
          (try simp only [Act.put, List.getElem_toArray, List.getElem_cons_zero, List.getElem_cons_succ, List.setIfInBounds_toArray, List.set_cons_zero, List.set_cons_succ])
          refine wpAnyH_take (i := 31) (v := ?_) rfl (by decide +kernel) (by decide +kernel) (by decide +kernel) (fun _ _ _ h => h) (Or.inl ⟨by rfl, ?hy⟩) hcur ?_
          case hy =>
            intro w1 hSw
            replace hSw : Below W.heap.size W w1 := hSw
            obtain ⟨x0, x1, x2, x3⟩ := (HT.out.up hSw).one
            obtain ⟨y0, y1, y2, y3⟩ := (HT.out.up hSw).two
            simp only [] at x0 x1 x2 x3 y0 y1 y2 y3
            go_simp
            (try with_reducible rfl)
          (try simp only [Act.put, List.getElem_toArray, List.getElem_cons_zero, List.getElem_cons_succ, List.setIfInBounds_toArray, List.set_cons_zero, List.set_cons_succ])
          refine wpAnyH_take (i := 32) (v := ?_) rfl (by decide +kernel) (by decide +kernel) (by decide +kernel) (fun _ _ _ h => h) (Or.inl ⟨by rfl, ?hy⟩) hcur ?_
          case hy =>
            intro w1 hSw
            replace hSw : Below W.heap.size W w1 := hSw
            obtain ⟨x0, x1, x2, x3⟩ := (HT.out.up hSw).one
            obtain ⟨y0, y1, y2, y3⟩ := (HT.out.up hSw).two
            simp only [] at x0 x1 x2 x3 y0 y1 y2 y3
            go_simp
            (try with_reducible rfl)
          (try simp only [Act.put, List.getElem_toArray, List.getElem_cons_zero, List.getElem_cons_succ, List.setIfInBounds_toArray, List.set_cons_zero, List.set_cons_succ])
          refine wpAnyH_ready (rs := [30]) (by decide +kernel) (by simp) ?_
          refine AllReadyH.cons rfl (fun K hK => ?_) AllReadyH.nil
          go_simp
          refine (ansname_any _ _).mono ?_
          rintro e wn ⟨rfl, hbn⟩
          go_wp2_with fail
          refine hK.out _ _ (below_of hcur hbn) (fun _ => ?_)
          clear hK K
          replace hcur := below_of hcur hbn
          clear hbn
          (try simp only [Act.put, List.getElem_toArray, List.getElem_cons_zero, List.getElem_cons_succ, List.setIfInBounds_toArray, List.set_cons_zero, List.set_cons_succ])
          refine wpAnyH_ready (rs := [33]) (by decide +kernel) (by simp) ?_
          refine AllReadyH.cons rfl (fun K hK => ?_) AllReadyH.nil
          go_simp
          refine (refname17_any _ _).mono ?_
          rintro e wn ⟨rfl, hbn⟩
          go_wp2_with fail
          refine hK.out _ _ (below_of hcur hbn) (fun _ => ?_)
          clear hK K
          replace hcur := below_of hcur hbn
          clear hbn
          (try simp only [Act.put, List.getElem_toArray, List.getElem_cons_zero, List.getElem_cons_succ, List.setIfInBounds_toArray, List.set_cons_zero, List.set_cons_succ])
          refine wpAnyH_take (i := 34) (v := ?_) rfl (by decide +kernel) (by decide +kernel) (by decide +kernel) (fun _ _ _ h => h) (Or.inl ⟨by rfl, ?hy⟩) hcur ?_
          case hy =>
            intro w1 hSw
            replace hSw : Below W.heap.size W w1 := hSw
            obtain ⟨x0, x1, x2, x3⟩ := (HT.out.up hSw).one
            obtain ⟨y0, y1, y2, y3⟩ := (HT.out.up hSw).two
            simp only [] at x0 x1 x2 x3 y0 y1 y2 y3
            go_simp
            (try with_reducible rfl)
          (try simp only [Act.put, List.getElem_toArray, List.getElem_cons_zero, List.getElem_cons_succ, List.setIfInBounds_toArray, List.set_cons_zero, List.set_cons_succ])
          refine wpAnyH_take (i := 35) (v := ?_) rfl (by decide +kernel) (by decide +kernel) (by decide +kernel) (fun _ _ _ h => h) (Or.inl ⟨by rfl, ?hy⟩) hcur ?_
          case hy =>
            intro w1 hSw
            replace hSw : Below W.heap.size W w1 := hSw
            obtain ⟨x0, x1, x2, x3⟩ := (HT.out.up hSw).one
            obtain ⟨y0, y1, y2, y3⟩ := (HT.out.up hSw).two
            simp only [] at x0 x1 x2 x3 y0 y1 y2 y3
            go_simp
            (try with_reducible rfl)
          (try simp only [Act.put, List.getElem_toArray, List.getElem_cons_zero, List.getElem_cons_succ, List.setIfInBounds_toArray, List.set_cons_zero, List.set_cons_succ])
          refine wpAnyH_take (i := 36) (v := ?_) rfl (by decide +kernel) (by decide +kernel) (by decide +kernel) (fun _ _ _ h => h) (Or.inl ⟨by rfl, ?hy⟩) hcur ?_
          case hy =>
            intro w1 hSw
            replace hSw : Below W.heap.size W w1 := hSw
            obtain ⟨x0, x1, x2, x3⟩ := (HT.out.up hSw).one
            obtain ⟨y0, y1, y2, y3⟩ := (HT.out.up hSw).two
            simp only [] at x0 x1 x2 x3 y0 y1 y2 y3
            go_simp
            (try with_reducible rfl)
          (try simp only [Act.put, List.getElem_toArray, List.getElem_cons_zero, List.getElem_cons_succ, List.setIfInBounds_toArray, List.set_cons_zero, List.set_cons_succ])
          refine wpAnyH_ready (rs := [37]) (by decide +kernel) (by simp) ?_
          refine AllReadyH.cons rfl (fun K hK => ?_) AllReadyH.nil
          go_simp
          refine (lives17_any _).mono ?_
          rintro e wn ⟨rfl, hbn⟩
          go_wp2_with fail
          refine hK.out _ _ (below_of hcur hbn) (fun _ => ?_)
          clear hK K
          replace hcur := below_of hcur hbn
          clear hbn
          (try simp only [Act.put, List.getElem_toArray, List.getElem_cons_zero, List.getElem_cons_succ, List.setIfInBounds_toArray, List.set_cons_zero, List.set_cons_succ])
          refine wpAnyH_take (i := 38) (v := ?_) rfl (by decide +kernel) (by decide +kernel) (by decide +kernel) (fun _ _ _ h => h) (Or.inl ⟨by rfl, ?hy⟩) hcur ?_
          case hy =>
            intro w1 hSw
            replace hSw : Below W.heap.size W w1 := hSw
            obtain ⟨x0, x1, x2, x3⟩ := (HT.out.up hSw).one
            obtain ⟨y0, y1, y2, y3⟩ := (HT.out.up hSw).two
            simp only [] at x0 x1 x2 x3 y0 y1 y2 y3
            go_simp
            (try with_reducible rfl)
          (try simp only [Act.put, List.getElem_toArray, List.getElem_cons_zero, List.getElem_cons_succ, List.setIfInBounds_toArray, List.set_cons_zero, List.set_cons_succ])
          refine wpAnyH_take (i := 39) (v := ?_) rfl (by decide +kernel) (by decide +kernel) (by decide +kernel) (fun _ _ _ h => h) (Or.inl ⟨by rfl, ?hy⟩) hcur ?_
          case hy =>
            intro w1 hSw
            replace hSw : Below W.heap.size W w1 := hSw
            obtain ⟨x0, x1, x2, x3⟩ := (HT.out.up hSw).one
            obtain ⟨y0, y1, y2, y3⟩ := (HT.out.up hSw).two
            simp only [] at x0 x1 x2 x3 y0 y1 y2 y3
            go_simp
            (try with_reducible rfl)
          (try simp only [Act.put, List.getElem_toArray, List.getElem_cons_zero, List.getElem_cons_succ, List.setIfInBounds_toArray, List.set_cons_zero, List.set_cons_succ])
          refine wpAnyH_done (by decide +kernel) ?_ _
          go_wp2_with fail
          go_ret
          exact ⟨rfl, below_of HT.out.bel hcur⟩
        · go_wp2_with fail
          refine (ansof_any ⟨key, val⟩ true _).mono ?_
          rintro e W4 ⟨rfl, hbn⟩
          clear x0 x1 x2 x3 y0 y1 y2 y3
          replace HT := Lib.hid (HT.out.up hbn)
          clear hbn
          have e2 : ansCells (ofA ⟨key, val⟩ true) none 0 = #[.int .i64 1, .string key, .int .u64 (val : Int), .slice none 0 0] := rfl
          rw [e2]
          clear e2
          have hx := AnsAt.new W4 ⟨1, key, val, []⟩ none 0 25
          have hgt : W4.heap.size < (W4.alloc (.cells (ansCells ⟨1, key, val, []⟩ none 0) 25)).heap.size := by simp
          replace HT := Lib.hid (HT.out.up (below_alloc W4 (.cells (ansCells ⟨1, key, val, []⟩ none 0) 25)))
          simp only [ansCells] at hx hgt HT
          go_upto_region 5 with fail
          generalize W4.alloc _ = W5 at HT hx hgt ⊢
          generalize W4.heap.size = g8 at hx hgt ⊢
          obtain ⟨x0, x1, x2, x3⟩ := HT.out.one
          obtain ⟨y0, y1, y2, y3⟩ := HT.out.two
          simp only [] at x0 x1 x2 x3 y0 y1 y2 y3
          obtain ⟨z0, z1, z2, z3⟩ := hx
          simp only [List.length_nil] at z0 z1 z2 z3
          go_wp2_with fail
          refine (Calls.as_ (refsame17_any ⟨1, key, val, []⟩ ⟨1, key, val, []⟩ none none 0 0 _ (prs_nil _ _) (prs_nil _ _) (Nat.zero_le _)) (congrArg Value.bool (ansB_self _))).mono ?_
          rintro e W ⟨rfl, hbn⟩
          clear z0 z1 z2 z3
          clear x0 x1 x2 x3 y0 y1 y2 y3
          replace HT := Lib.hid (HT.out.up hbn)
          clear hbn
          go_upto_region 7 with fail
          refine wp_region_held_drew (S := fun w' => Below W.heap.size W w') (by kernel_rfl) (Below.drew (Below.refl _ _)) (fun hcur => ?_)
          replace hcur : Below W.heap.size W W.drew := hcur
          refine wpAnyH_take (i := 0) (v := ?_) rfl (by decide +kernel) (by decide +kernel) (by decide +kernel) (fun _ _ _ h => h) (Or.inl ⟨by rfl, ?hy⟩) hcur ?_
          case hy =>
            intro w1 hSw
            replace hSw : Below W.heap.size W w1 := hSw
            obtain ⟨x0, x1, x2, x3⟩ := (HT.out.up hSw).one
            obtain ⟨y0, y1, y2, y3⟩ := (HT.out.up hSw).two
            simp only [] at x0 x1 x2 x3 y0 y1 y2 y3
            go_simp
            (try with_reducible rfl)
          (try simp only [Act.put, List.getElem_toArray, List.getElem_cons_zero, List.getElem_cons_succ, List.setIfInBounds_toArray, List.set_cons_zero, List.set_cons_succ])
          refine wpAnyH_take (i := 1) (v := ?_) rfl (by decide +kernel) (by decide +kernel) (by decide +kernel) (fun _ _ _ h => h) (Or.inl ⟨by rfl, ?hy⟩) hcur ?_
          case hy =>
            intro w1 hSw
            replace hSw : Below W.heap.size W w1 := hSw
            obtain ⟨x0, x1, x2, x3⟩ := (HT.out.up hSw).one
            obtain ⟨y0, y1, y2, y3⟩ := (HT.out.up hSw).two
            simp only [] at x0 x1 x2 x3 y0 y1 y2 y3
            go_simp
            (try with_reducible rfl)
          (try simp only [Act.put, List.getElem_toArray, List.getElem_cons_zero, List.getElem_cons_succ, List.setIfInBounds_toArray, List.set_cons_zero, List.set_cons_succ])
          refine wpAnyH_take (i := 2) (v := ?_) rfl (by decide +kernel) (by decide +kernel) (by decide +kernel) (fun _ _ _ h => h) (Or.inl ⟨by rfl, ?hy⟩) hcur ?_
          case hy =>
            intro w1 hSw
            replace hSw : Below W.heap.size W w1 := hSw
            obtain ⟨x0, x1, x2, x3⟩ := (HT.out.up hSw).one
            obtain ⟨y0, y1, y2, y3⟩ := (HT.out.up hSw).two
            simp only [] at x0 x1 x2 x3 y0 y1 y2 y3
            go_simp
            (try with_reducible rfl)
          (try simp only [Act.put, List.getElem_toArray, List.getElem_cons_zero, List.getElem_cons_succ, List.setIfInBounds_toArray, List.set_cons_zero, List.set_cons_succ])
          refine wpAnyH_ready (rs := [3]) (by decide +kernel) (by simp) ?_
          refine AllReadyH.cons rfl (fun K hK => ?_) AllReadyH.nil
          go_simp
          refine (HSo.out _ (HT.out.up hcur).pa).mono ?_
          rintro e wn ⟨rfl, hbn⟩
          go_wp2_with fail
          refine hK.out _ _ (below_of hcur hbn) (fun _ => ?_)
          clear hK K
          replace hcur := below_of hcur hbn
          clear hbn
          (try simp only [Act.put, List.getElem_toArray, List.getElem_cons_zero, List.getElem_cons_succ, List.setIfInBounds_toArray, List.set_cons_zero, List.set_cons_succ])
          refine wpAnyH_take (i := 4) (v := ?_) rfl (by decide +kernel) (by decide +kernel) (by decide +kernel) (fun _ _ _ h => h) (Or.inl ⟨by rfl, ?hy⟩) hcur ?_
          case hy =>
            intro w1 hSw
            replace hSw : Below W.heap.size W w1 := hSw
            obtain ⟨x0, x1, x2, x3⟩ := (HT.out.up hSw).one
            obtain ⟨y0, y1, y2, y3⟩ := (HT.out.up hSw).two
            simp only [] at x0 x1 x2 x3 y0 y1 y2 y3
            go_simp
            (try with_reducible rfl)
          (try simp only [Act.put, List.getElem_toArray, List.getElem_cons_zero, List.getElem_cons_succ, List.setIfInBounds_toArray, List.set_cons_zero, List.set_cons_succ])
          refine wpAnyH_take (i := 5) (v := ?_) rfl (by decide +kernel) (by decide +kernel) (by decide +kernel) (fun _ _ _ h => h) (Or.inl ⟨by rfl, ?hy⟩) hcur ?_
          case hy =>
            intro w1 hSw
            replace hSw : Below W.heap.size W w1 := hSw
            obtain ⟨x0, x1, x2, x3⟩ := (HT.out.up hSw).one
            obtain ⟨y0, y1, y2, y3⟩ := (HT.out.up hSw).two
            simp only [] at x0 x1 x2 x3 y0 y1 y2 y3
            go_simp
            (try with_reducible rfl)
          (try simp only [Act.put, List.getElem_toArray, List.getElem_cons_zero, List.getElem_cons_succ, List.setIfInBounds_toArray, List.set_cons_zero, List.set_cons_succ])
          refine wpAnyH_take (i := 6) (v := ?_) rfl (by decide +kernel) (by decide +kernel) (by decide +kernel) (fun _ _ _ h => h) (Or.inl ⟨by rfl, ?hy⟩) hcur ?_
          case hy =>
            intro w1 hSw
            replace hSw : Below W.heap.size W w1 := hSw
            obtain ⟨x0, x1, x2, x3⟩ := (HT.out.up hSw).one
            obtain ⟨y0, y1, y2, y3⟩ := (HT.out.up hSw).two
            simp only [] at x0 x1 x2 x3 y0 y1 y2 y3
            go_simp
            (try with_reducible rfl)
          (try simp only [Act.put, List.getElem_toArray, List.getElem_cons_zero, List.getElem_cons_succ, List.setIfInBounds_toArray, List.set_cons_zero, List.set_cons_succ])
          refine wpAnyH_take (i := 7) (v := ?_) rfl (by decide +kernel) (by decide +kernel) (by decide +kernel) (fun _ _ _ h => h) (Or.inl ⟨by rfl, ?hy⟩) hcur ?_
          case hy =>
            intro w1 hSw
            replace hSw : Below W.heap.size W w1 := hSw
            obtain ⟨x0, x1, x2, x3⟩ := (HT.out.up hSw).one
            obtain ⟨y0, y1, y2, y3⟩ := (HT.out.up hSw).two
            simp only [] at x0 x1 x2 x3 y0 y1 y2 y3
            go_simp
            (try with_reducible rfl)
          (try simp only [Act.put, List.getElem_toArray, List.getElem_cons_zero, List.getElem_cons_succ, List.setIfInBounds_toArray, List.set_cons_zero, List.set_cons_succ])
          refine wpAnyH_take (i := 8) (v := ?_) rfl (by decide +kernel) (by decide +kernel) (by decide +kernel) (fun _ _ _ h => h) (Or.inl ⟨by rfl, ?hy⟩) hcur ?_
          case hy =>
            intro w1 hSw
            replace hSw : Below W.heap.size W w1 := hSw
            obtain ⟨x0, x1, x2, x3⟩ := (HT.out.up hSw).one
            obtain ⟨y0, y1, y2, y3⟩ := (HT.out.up hSw).two
            simp only [] at x0 x1 x2 x3 y0 y1 y2 y3
            go_simp
            (try with_reducible rfl)
          (try simp only [Act.put, List.getElem_toArray, List.getElem_cons_zero, List.getElem_cons_succ, List.setIfInBounds_toArray, List.set_cons_zero, List.set_cons_succ])
          refine wpAnyH_take (i := 9) (v := ?_) rfl (by decide +kernel) (by decide +kernel) (by decide +kernel) (fun _ _ _ h => h) (Or.inl ⟨by rfl, ?hy⟩) hcur ?_
          case hy =>
            intro w1 hSw
            replace hSw : Below W.heap.size W w1 := hSw
            obtain ⟨x0, x1, x2, x3⟩ := (HT.out.up hSw).one
            obtain ⟨y0, y1, y2, y3⟩ := (HT.out.up hSw).two
            simp only [] at x0 x1 x2 x3 y0 y1 y2 y3
            go_simp
            (try with_reducible rfl)
          (try simp only [Act.put, List.getElem_toArray, List.getElem_cons_zero, List.getElem_cons_succ, List.setIfInBounds_toArray, List.set_cons_zero, List.set_cons_succ])
          refine wpAnyH_take (i := 10) (v := ?_) rfl (by decide +kernel) (by decide +kernel) (by decide +kernel) (fun _ _ _ h => h) (Or.inl ⟨by rfl, ?hy⟩) hcur ?_
          case hy =>
            intro w1 hSw
            replace hSw : Below W.heap.size W w1 := hSw
            obtain ⟨x0, x1, x2, x3⟩ := (HT.out.up hSw).one
            obtain ⟨y0, y1, y2, y3⟩ := (HT.out.up hSw).two
            simp only [] at x0 x1 x2 x3 y0 y1 y2 y3
            go_simp
            (try with_reducible rfl)
          (try simp only [Act.put, List.getElem_toArray, List.getElem_cons_zero, List.getElem_cons_succ, List.setIfInBounds_toArray, List.set_cons_zero, List.set_cons_succ])
          refine wpAnyH_take (i := 11) (v := ?_) rfl (by decide +kernel) (by decide +kernel) (by decide +kernel) (fun _ _ _ h => h) (Or.inl ⟨by rfl, ?hy⟩) hcur ?_
          case hy =>
            intro w1 hSw
            replace hSw : Below W.heap.size W w1 := hSw
            obtain ⟨x0, x1, x2, x3⟩ := (HT.out.up hSw).one
            obtain ⟨y0, y1, y2, y3⟩ := (HT.out.up hSw).two
            simp only [] at x0 x1 x2 x3 y0 y1 y2 y3
            go_simp
            (try with_reducible rfl)
          (try simp only [Act.put, List.getElem_toArray, List.getElem_cons_zero, List.getElem_cons_succ, List.setIfInBounds_toArray, List.set_cons_zero, List.set_cons_succ])
          refine wpAnyH_take (i := 12) (v := ?_) rfl (by decide +kernel) (by decide +kernel) (by decide +kernel) (fun _ _ _ h => h) (Or.inl ⟨by rfl, ?hy⟩) hcur ?_
          case hy =>
            intro w1 hSw
            replace hSw : Below W.heap.size W w1 := hSw
            obtain ⟨x0, x1, x2, x3⟩ := (HT.out.up hSw).one
            obtain ⟨y0, y1, y2, y3⟩ := (HT.out.up hSw).two
            simp only [] at x0 x1 x2 x3 y0 y1 y2 y3
            go_simp
            (try with_reducible rfl)
          (try simp only [Act.put, List.getElem_toArray, List.getElem_cons_zero, List.getElem_cons_succ, List.setIfInBounds_toArray, List.set_cons_zero, List.set_cons_succ])
          refine wpAnyH_take (i := 13) (v := ?_) rfl (by decide +kernel) (by decide +kernel) (by decide +kernel) (fun _ _ _ h => h) (Or.inl ⟨by rfl, ?hy⟩) hcur ?_
          case hy =>
            intro w1 hSw
            replace hSw : Below W.heap.size W w1 := hSw
            obtain ⟨x0, x1, x2, x3⟩ := (HT.out.up hSw).one
            obtain ⟨y0, y1, y2, y3⟩ := (HT.out.up hSw).two
            simp only [] at x0 x1 x2 x3 y0 y1 y2 y3
            go_simp
            (try with_reducible rfl)
          (try simp only [Act.put, List.getElem_toArray, List.getElem_cons_zero, List.getElem_cons_succ, List.setIfInBounds_toArray, List.set_cons_zero, List.set_cons_succ])
          refine wpAnyH_take (i := 14) (v := ?_) rfl (by decide +kernel) (by decide +kernel) (by decide +kernel) (fun _ _ _ h => h) (Or.inl ⟨by rfl, ?hy⟩) hcur ?_
          case hy =>
            intro w1 hSw
            replace hSw : Below W.heap.size W w1 := hSw
            obtain ⟨x0, x1, x2, x3⟩ := (HT.out.up hSw).one
            obtain ⟨y0, y1, y2, y3⟩ := (HT.out.up hSw).two
            simp only [] at x0 x1 x2 x3 y0 y1 y2 y3
            go_simp
            (try with_reducible rfl)
          (try simp only [Act.put, List.getElem_toArray, List.getElem_cons_zero, List.getElem_cons_succ, List.setIfInBounds_toArray, List.set_cons_zero, List.set_cons_succ])
          refine wpAnyH_take (i := 15) (v := ?_) rfl (by decide +kernel) (by decide +kernel) (by decide +kernel) (fun _ _ _ h => h) (Or.inl ⟨by rfl, ?hy⟩) hcur ?_
          case hy =>
            intro w1 hSw
            replace hSw : Below W.heap.size W w1 := hSw
            obtain ⟨x0, x1, x2, x3⟩ := (HT.out.up hSw).one
            obtain ⟨y0, y1, y2, y3⟩ := (HT.out.up hSw).two
            simp only [] at x0 x1 x2 x3 y0 y1 y2 y3
            go_simp
            (try with_reducible rfl)
          (try simp only [Act.put, List.getElem_toArray, List.getElem_cons_zero, List.getElem_cons_succ, List.setIfInBounds_toArray, List.set_cons_zero, List.set_cons_succ])
          refine wpAnyH_take (i := 17) (v := ?_) rfl (by decide +kernel) (by decide +kernel) (by decide +kernel) (fun _ _ _ h => h) (Or.inl ⟨by rfl, ?hy⟩) hcur ?_
          case hy =>
            intro w1 hSw
            replace hSw : Below W.heap.size W w1 := hSw
            obtain ⟨x0, x1, x2, x3⟩ := (HT.out.up hSw).one
            obtain ⟨y0, y1, y2, y3⟩ := (HT.out.up hSw).two
            simp only [] at x0 x1 x2 x3 y0 y1 y2 y3
            go_simp
            (try with_reducible rfl)
          (try simp only [Act.put, List.getElem_toArray, List.getElem_cons_zero, List.getElem_cons_succ, List.setIfInBounds_toArray, List.set_cons_zero, List.set_cons_succ])
          refine wpAnyH_take (i := 18) (v := ?_) rfl (by decide +kernel) (by decide +kernel) (by decide +kernel) (fun _ _ _ h => h) (Or.inl ⟨by rfl, ?hy⟩) hcur ?_
          case hy =>
            intro w1 hSw
            replace hSw : Below W.heap.size W w1 := hSw
            obtain ⟨x0, x1, x2, x3⟩ := (HT.out.up hSw).one
            obtain ⟨y0, y1, y2, y3⟩ := (HT.out.up hSw).two
            simp only [] at x0 x1 x2 x3 y0 y1 y2 y3
            go_simp
            (try with_reducible rfl)
          (try simp only [Act.put, List.getElem_toArray, List.getElem_cons_zero, List.getElem_cons_succ, List.setIfInBounds_toArray, List.set_cons_zero, List.set_cons_succ])
          refine wpAnyH_ready (rs := [16]) (by decide +kernel) (by simp) ?_
          refine AllReadyH.cons rfl (fun K hK => ?_) AllReadyH.nil
          go_simp
          refine (HSm.out _ (HT.out.up hcur).pa (HT.out.up hcur).pb).mono ?_
          rintro e wn ⟨rfl, hbn⟩
          go_wp2_with fail
          refine hK.out _ _ (below_of hcur hbn) (fun _ => ?_)
          clear hK K
          replace hcur := below_of hcur hbn
          clear hbn
          (try simp only [Act.put, List.getElem_toArray, List.getElem_cons_zero, List.getElem_cons_succ, List.setIfInBounds_toArray, List.set_cons_zero, List.set_cons_succ])
          refine wpAnyH_ready (rs := [19]) (by decide +kernel) (by simp) ?_
          refine AllReadyH.cons rfl (fun K hK => ?_) AllReadyH.nil
          go_simp
          refine (HSr.out _ (HT.out.up hcur).pa (HT.out.up hcur).pb).mono ?_
          rintro e wn ⟨rfl, hbn⟩
          go_wp2_with fail
          refine hK.out _ _ (below_of hcur hbn) (fun _ => ?_)
          clear hK K
          replace hcur := below_of hcur hbn
          clear hbn
          (try simp only [Act.put, List.getElem_toArray, List.getElem_cons_zero, List.getElem_cons_succ, List.setIfInBounds_toArray, List.set_cons_zero, List.set_cons_succ])
          refine wpAnyH_take (i := 20) (v := ?_) rfl (by decide +kernel) (by decide +kernel) (by decide +kernel) (fun _ _ _ h => h) (Or.inl ⟨by rfl, ?hy⟩) hcur ?_
          case hy =>
            intro w1 hSw
            replace hSw : Below W.heap.size W w1 := hSw
            obtain ⟨x0, x1, x2, x3⟩ := (HT.out.up hSw).one
            obtain ⟨y0, y1, y2, y3⟩ := (HT.out.up hSw).two
            simp only [] at x0 x1 x2 x3 y0 y1 y2 y3
            go_simp
            (try with_reducible rfl)
          (try simp only [Act.put, List.getElem_toArray, List.getElem_cons_zero, List.getElem_cons_succ, List.setIfInBounds_toArray, List.set_cons_zero, List.set_cons_succ])
          refine wpAnyH_take (i := 21) (v := ?_) rfl (by decide +kernel) (by decide +kernel) (by decide +kernel) (fun _ _ _ h => h) (Or.inl ⟨by rfl, ?hy⟩) hcur ?_
          case hy =>
            intro w1 hSw
            replace hSw : Below W.heap.size W w1 := hSw
            obtain ⟨x0, x1, x2, x3⟩ := (HT.out.up hSw).one
            obtain ⟨y0, y1, y2, y3⟩ := (HT.out.up hSw).two
            simp only [] at x0 x1 x2 x3 y0 y1 y2 y3
            go_simp
            (try with_reducible rfl)
          (try simp only [Act.put, List.getElem_toArray, List.getElem_cons_zero, List.getElem_cons_succ, List.setIfInBounds_toArray, List.set_cons_zero, List.set_cons_succ])
          refine wpAnyH_take (i := 22) (v := ?_) rfl (by decide +kernel) (by decide +kernel) (by decide +kernel) (fun _ _ _ h => h) (Or.inl ⟨by rfl, ?hy⟩) hcur ?_
          case hy =>
            intro w1 hSw
            replace hSw : Below W.heap.size W w1 := hSw
            obtain ⟨x0, x1, x2, x3⟩ := (HT.out.up hSw).one
            obtain ⟨y0, y1, y2, y3⟩ := (HT.out.up hSw).two
            simp only [] at x0 x1 x2 x3 y0 y1 y2 y3
            go_simp
            (try with_reducible rfl)
          (try simp only [Act.put, List.getElem_toArray, List.getElem_cons_zero, List.getElem_cons_succ, List.setIfInBounds_toArray, List.set_cons_zero, List.set_cons_succ])
          refine wpAnyH_take (i := 23) (v := ?_) rfl (by decide +kernel) (by decide +kernel) (by decide +kernel) (fun _ _ _ h => h) (Or.inl ⟨by rfl, ?hy⟩) hcur ?_
          case hy =>
            intro w1 hSw
            replace hSw : Below W.heap.size W w1 := hSw
            obtain ⟨x0, x1, x2, x3⟩ := (HT.out.up hSw).one
            obtain ⟨y0, y1, y2, y3⟩ := (HT.out.up hSw).two
            simp only [] at x0 x1 x2 x3 y0 y1 y2 y3
            go_simp
            (try with_reducible rfl)
          (try simp only [Act.put, List.getElem_toArray, List.getElem_cons_zero, List.getElem_cons_succ, List.setIfInBounds_toArray, List.set_cons_zero, List.set_cons_succ])
          refine wpAnyH_take (i := 24) (v := ?_) rfl (by decide +kernel) (by decide +kernel) (by decide +kernel) (fun _ _ _ h => h) (Or.inl ⟨by rfl, ?hy⟩) hcur ?_
          case hy =>
            intro w1 hSw
            replace hSw : Below W.heap.size W w1 := hSw
            obtain ⟨x0, x1, x2, x3⟩ := (HT.out.up hSw).one
            obtain ⟨y0, y1, y2, y3⟩ := (HT.out.up hSw).two
            simp only [] at x0 x1 x2 x3 y0 y1 y2 y3
            go_simp
            (try with_reducible rfl)
          (try simp only [Act.put, List.getElem_toArray, List.getElem_cons_zero, List.getElem_cons_succ, List.setIfInBounds_toArray, List.set_cons_zero, List.set_cons_succ])
          refine wpAnyH_ready (rs := [25]) (by decide +kernel) (by simp) ?_
          refine AllReadyH.cons rfl (fun K hK => ?_) AllReadyH.nil
          go_simp
          refine (HSa.out _ (HT.out.up hcur).pa).mono ?_
          rintro e wn ⟨rfl, hbn⟩
          go_wp2_with fail
          refine hK.out _ _ (below_of hcur hbn) (fun _ => ?_)
          clear hK K
          replace hcur := below_of hcur hbn
          clear hbn
          (try simp only [Act.put, List.getElem_toArray, List.getElem_cons_zero, List.getElem_cons_succ, List.setIfInBounds_toArray, List.set_cons_zero, List.set_cons_succ])
          refine wpAnyH_take (i := 26) (v := ?_) rfl (by decide +kernel) (by decide +kernel) (by decide +kernel) (fun _ _ _ h => h) (Or.inl ⟨by rfl, ?hy⟩) hcur ?_
          case hy =>
            intro w1 hSw
            replace hSw : Below W.heap.size W w1 := hSw
            obtain ⟨x0, x1, x2, x3⟩ := (HT.out.up hSw).one
            obtain ⟨y0, y1, y2, y3⟩ := (HT.out.up hSw).two
            simp only [] at x0 x1 x2 x3 y0 y1 y2 y3
            go_simp
            (try with_reducible rfl)
          (try simp only [Act.put, List.getElem_toArray, List.getElem_cons_zero, List.getElem_cons_succ, List.setIfInBounds_toArray, List.set_cons_zero, List.set_cons_succ])
          refine wpAnyH_take (i := 27) (v := ?_) rfl (by decide +kernel) (by decide +kernel) (by decide +kernel) (fun _ _ _ h => h) (Or.inl ⟨by rfl, ?hy⟩) hcur ?_
          case hy =>
            intro w1 hSw
            replace hSw : Below W.heap.size W w1 := hSw
            obtain ⟨x0, x1, x2, x3⟩ := (HT.out.up hSw).one
            obtain ⟨y0, y1, y2, y3⟩ := (HT.out.up hSw).two
            simp only [] at x0 x1 x2 x3 y0 y1 y2 y3
            go_simp
            (try with_reducible rfl)
          (try simp only [Act.put, List.getElem_toArray, List.getElem_cons_zero, List.getElem_cons_succ, List.setIfInBounds_toArray, List.set_cons_zero, List.set_cons_succ])
          refine wpAnyH_take (i := 28) (v := ?_) rfl (by decide +kernel) (by decide +kernel) (by decide +kernel) (fun _ _ _ h => h) (Or.inl ⟨by rfl, ?hy⟩) hcur ?_
          case hy =>
            intro w1 hSw
            replace hSw : Below W.heap.size W w1 := hSw
            obtain ⟨x0, x1, x2, x3⟩ := (HT.out.up hSw).one
            obtain ⟨y0, y1, y2, y3⟩ := (HT.out.up hSw).two
            simp only [] at x0 x1 x2 x3 y0 y1 y2 y3
            go_simp
            (try with_reducible rfl)
          (try simp only [Act.put, List.getElem_toArray, List.getElem_cons_zero, List.getElem_cons_succ, List.setIfInBounds_toArray, List.set_cons_zero, List.set_cons_succ])
          refine wpAnyH_take (i := 29) (v := ?_) rfl (by decide +kernel) (by decide +kernel) (by decide +kernel) (fun _ _ _ h => h) (Or.inl ⟨by rfl, ?hy⟩) hcur ?_
          case hy =>
            intro w1 hSw
            replace hSw : Below W.heap.size W w1 := hSw
            obtain ⟨x0, x1, x2, x3⟩ := (HT.out.up hSw).one
            obtain ⟨y0, y1, y2, y3⟩ := (HT.out.up hSw).two
            simp only [] at x0 x1 x2 x3 y0 y1 y2 y3
            go_simp
            (try with_reducible rfl)
          (try simp only [Act.put, List.getElem_toArray, List.getElem_cons_zero, List.getElem_cons_succ, List.setIfInBounds_toArray, List.set_cons_zero, List.set_cons_succ])
          refine wpAnyH_take (i := 31) (v := ?_) rfl (by decide +kernel) (by decide +kernel) (by decide +kernel) (fun _ _ _ h => h) (Or.inl ⟨by rfl, ?hy⟩) hcur ?_
          case hy =>
            intro w1 hSw
            replace hSw : Below W.heap.size W w1 := hSw
            obtain ⟨x0, x1, x2, x3⟩ := (HT.out.up hSw).one
            obtain ⟨y0, y1, y2, y3⟩ := (HT.out.up hSw).two
            simp only [] at x0 x1 x2 x3 y0 y1 y2 y3
            go_simp
            (try with_reducible rfl)
          (try simp only [Act.put, List.getElem_toArray, List.getElem_cons_zero, List.getElem_cons_succ, List.setIfInBounds_toArray, List.set_cons_zero, List.set_cons_succ])
          refine wpAnyH_take (i := 32) (v := ?_) rfl (by decide +kernel) (by decide +kernel) (by decide +kernel) (fun _ _ _ h => h) (Or.inl ⟨by rfl, ?hy⟩) hcur ?_
          case hy =>
            intro w1 hSw
            replace hSw : Below W.heap.size W w1 := hSw
            obtain ⟨x0, x1, x2, x3⟩ := (HT.out.up hSw).one
            obtain ⟨y0, y1, y2, y3⟩ := (HT.out.up hSw).two
            simp only [] at x0 x1 x2 x3 y0 y1 y2 y3
            go_simp
            (try with_reducible rfl)
          (try simp only [Act.put, List.getElem_toArray, List.getElem_cons_zero, List.getElem_cons_succ, List.setIfInBounds_toArray, List.set_cons_zero, List.set_cons_succ])
          refine wpAnyH_ready (rs := [30]) (by decide +kernel) (by simp) ?_
          refine AllReadyH.cons rfl (fun K hK => ?_) AllReadyH.nil
          go_simp
          refine (ansname_any _ _).mono ?_
          rintro e wn ⟨rfl, hbn⟩
          go_wp2_with fail
          refine hK.out _ _ (below_of hcur hbn) (fun _ => ?_)
          clear hK K
          replace hcur := below_of hcur hbn
          clear hbn
          (try simp only [Act.put, List.getElem_toArray, List.getElem_cons_zero, List.getElem_cons_succ, List.setIfInBounds_toArray, List.set_cons_zero, List.set_cons_succ])
          refine wpAnyH_ready (rs := [33]) (by decide +kernel) (by simp) ?_
          refine AllReadyH.cons rfl (fun K hK => ?_) AllReadyH.nil
          go_simp
          refine (refname17_any _ _).mono ?_
          rintro e wn ⟨rfl, hbn⟩
          go_wp2_with fail
          refine hK.out _ _ (below_of hcur hbn) (fun _ => ?_)
          clear hK K
          replace hcur := below_of hcur hbn
          clear hbn
          (try simp only [Act.put, List.getElem_toArray, List.getElem_cons_zero, List.getElem_cons_succ, List.setIfInBounds_toArray, List.set_cons_zero, List.set_cons_succ])
          refine wpAnyH_take (i := 34) (v := ?_) rfl (by decide +kernel) (by decide +kernel) (by decide +kernel) (fun _ _ _ h => h) (Or.inl ⟨by rfl, ?hy⟩) hcur ?_
          case hy =>
            intro w1 hSw
            replace hSw : Below W.heap.size W w1 := hSw
            obtain ⟨x0, x1, x2, x3⟩ := (HT.out.up hSw).one
            obtain ⟨y0, y1, y2, y3⟩ := (HT.out.up hSw).two
            simp only [] at x0 x1 x2 x3 y0 y1 y2 y3
            go_simp
            (try with_reducible rfl)
          (try simp only [Act.put, List.getElem_toArray, List.getElem_cons_zero, List.getElem_cons_succ, List.setIfInBounds_toArray, List.set_cons_zero, List.set_cons_succ])
          refine wpAnyH_take (i := 35) (v := ?_) rfl (by decide +kernel) (by decide +kernel) (by decide +kernel) (fun _ _ _ h => h) (Or.inl ⟨by rfl, ?hy⟩) hcur ?_
          case hy =>
            intro w1 hSw
            replace hSw : Below W.heap.size W w1 := hSw
            obtain ⟨x0, x1, x2, x3⟩ := (HT.out.up hSw).one
            obtain ⟨y0, y1, y2, y3⟩ := (HT.out.up hSw).two
            simp only [] at x0 x1 x2 x3 y0 y1 y2 y3
            go_simp
            (try with_reducible rfl)
          (try simp only [Act.put, List.getElem_toArray, List.getElem_cons_zero, List.getElem_cons_succ, List.setIfInBounds_toArray, List.set_cons_zero, List.set_cons_succ])
          refine wpAnyH_take (i := 36) (v := ?_) rfl (by decide +kernel) (by decide +kernel) (by decide +kernel) (fun _ _ _ h => h) (Or.inl ⟨by rfl, ?hy⟩) hcur ?_
          case hy =>
            intro w1 hSw
            replace hSw : Below W.heap.size W w1 := hSw
            obtain ⟨x0, x1, x2, x3⟩ := (HT.out.up hSw).one
            obtain ⟨y0, y1, y2, y3⟩ := (HT.out.up hSw).two
            simp only [] at x0 x1 x2 x3 y0 y1 y2 y3
            go_simp
            (try with_reducible rfl)
          (try simp only [Act.put, List.getElem_toArray, List.getElem_cons_zero, List.getElem_cons_succ, List.setIfInBounds_toArray, List.set_cons_zero, List.set_cons_succ])
          refine wpAnyH_ready (rs := [37]) (by decide +kernel) (by simp) ?_
          refine AllReadyH.cons rfl (fun K hK => ?_) AllReadyH.nil
          go_simp
          refine (lives17_any _).mono ?_
          rintro e wn ⟨rfl, hbn⟩
          go_wp2_with fail
          refine hK.out _ _ (below_of hcur hbn) (fun _ => ?_)
          clear hK K
          replace hcur := below_of hcur hbn
          clear hbn
          (try simp only [Act.put, List.getElem_toArray, List.getElem_cons_zero, List.getElem_cons_succ, List.setIfInBounds_toArray, List.set_cons_zero, List.set_cons_succ])
          refine wpAnyH_take (i := 38) (v := ?_) rfl (by decide +kernel) (by decide +kernel) (by decide +kernel) (fun _ _ _ h => h) (Or.inl ⟨by rfl, ?hy⟩) hcur ?_
          case hy =>
            intro w1 hSw
            replace hSw : Below W.heap.size W w1 := hSw
            obtain ⟨x0, x1, x2, x3⟩ := (HT.out.up hSw).one
            obtain ⟨y0, y1, y2, y3⟩ := (HT.out.up hSw).two
            simp only [] at x0 x1 x2 x3 y0 y1 y2 y3
            go_simp
            (try with_reducible rfl)
          (try simp only [Act.put, List.getElem_toArray, List.getElem_cons_zero, List.getElem_cons_succ, List.setIfInBounds_toArray, List.set_cons_zero, List.set_cons_succ])
          refine wpAnyH_take (i := 39) (v := ?_) rfl (by decide +kernel) (by decide +kernel) (by decide +kernel) (fun _ _ _ h => h) (Or.inl ⟨by rfl, ?hy⟩) hcur ?_
          case hy =>
            intro w1 hSw
            replace hSw : Below W.heap.size W w1 := hSw
            obtain ⟨x0, x1, x2, x3⟩ := (HT.out.up hSw).one
            obtain ⟨y0, y1, y2, y3⟩ := (HT.out.up hSw).two
            simp only [] at x0 x1 x2 x3 y0 y1 y2 y3
            go_simp
            (try with_reducible rfl)
          (try simp only [Act.put, List.getElem_toArray, List.getElem_cons_zero, List.getElem_cons_succ, List.setIfInBounds_toArray, List.set_cons_zero, List.set_cons_succ])
          refine wpAnyH_done (by decide +kernel) ?_ _
          go_wp2_with fail
          go_ret
          exact ⟨rfl, below_of HT.out.bel hcur⟩
      · have HC0 := Lib.hid (fun W hW => Calls.as_ (HC.out W hW) (congrArg (Value.int .i64) (if_pos rfl)))
        clear HC
        obtain ⟨x0, x1, x2, x3⟩ := HT.out.one
        obtain ⟨y0, y1, y2, y3⟩ := HT.out.two
        simp only [] at x0 x1 x2 x3 y0 y1 y2 y3
        go_wp2_with fail
        refine (HC0.out _ HT.out.pa).mono ?_
        rintro e W3 ⟨rfl, hbn⟩
        clear x0 x1 x2 x3 y0 y1 y2 y3
        replace HT := Lib.hid (HT.out.up hbn)
        clear hbn
        obtain ⟨x0, x1, x2, x3⟩ := HT.out.one
        obtain ⟨y0, y1, y2, y3⟩ := HT.out.two
        simp only [] at x0 x1 x2 x3 y0 y1 y2 y3
        cases ok
        · go_wp2_with fail
          refine (ansof_any ⟨key, val⟩ false _).mono ?_
          rintro e W4 ⟨rfl, hbn⟩
          clear x0 x1 x2 x3 y0 y1 y2 y3
          replace HT := Lib.hid (HT.out.up hbn)
          clear hbn
          have e2 : ansCells (ofA ⟨key, val⟩ false) none 0 = #[.int .i64 2, .string ⟨#[]⟩, .int .u64 0, .slice none 0 0] := rfl
          rw [e2]
          clear e2
          have hx := AnsAt.new W4 ⟨2, ⟨#[]⟩, 0, []⟩ none 0 25
          have hgt : W4.heap.size < (W4.alloc (.cells (ansCells ⟨2, ⟨#[]⟩, 0, []⟩ none 0) 25)).heap.size := by simp
          replace HT := Lib.hid (HT.out.up (below_alloc W4 (.cells (ansCells ⟨2, ⟨#[]⟩, 0, []⟩ none 0) 25)))
          simp only [ansCells] at hx hgt HT
          go_upto_region 5 with fail
          generalize W4.alloc _ = W5 at HT hx hgt ⊢
          generalize W4.heap.size = g8 at hx hgt ⊢
          obtain ⟨x0, x1, x2, x3⟩ := HT.out.one
          obtain ⟨y0, y1, y2, y3⟩ := HT.out.two
          simp only [] at x0 x1 x2 x3 y0 y1 y2 y3
          obtain ⟨z0, z1, z2, z3⟩ := hx
          simp only [List.length_nil] at z0 z1 z2 z3
          go_wp2_with fail
          refine (Calls.as_ (refsame17_any ⟨2, ⟨#[]⟩, 0, []⟩ ⟨2, ⟨#[]⟩, 0, []⟩ none none 0 0 _ (prs_nil _ _) (prs_nil _ _) (Nat.zero_le _)) (congrArg Value.bool (ansB_self _))).mono ?_
          rintro e W ⟨rfl, hbn⟩
          clear z0 z1 z2 z3
          clear x0 x1 x2 x3 y0 y1 y2 y3
          replace HT := Lib.hid (HT.out.up hbn)
          clear hbn
          go_upto_region 7 with fail
          refine wp_region_held_drew (S := fun w' => Below W.heap.size W w') (by kernel_rfl) (Below.drew (Below.refl _ _)) (fun hcur => ?_)
          replace hcur : Below W.heap.size W W.drew := hcur
          refine wpAnyH_take (i := 0) (v := ?_) rfl (by decide +kernel) (by decide +kernel) (by decide +kernel) (fun _ _ _ h => h) (Or.inl ⟨by rfl, ?hy⟩) hcur ?_
          case hy =>
            intro w1 hSw
            replace hSw : Below W.heap.size W w1 := hSw
            obtain ⟨x0, x1, x2, x3⟩ := (HT.out.up hSw).one
            obtain ⟨y0, y1, y2, y3⟩ := (HT.out.up hSw).two
            simp only [] at x0 x1 x2 x3 y0 y1 y2 y3
            go_simp
            (try with_reducible rfl)
          (try simp only [Act.put, List.getElem_toArray, List.getElem_cons_zero, List.getElem_cons_succ, List.setIfInBounds_toArray, List.set_cons_zero, List.set_cons_succ])
          refine wpAnyH_take (i := 1) (v := ?_) rfl (by decide +kernel) (by decide +kernel) (by decide +kernel) (fun _ _ _ h => h) (Or.inl ⟨by rfl, ?hy⟩) hcur ?_
          case hy =>
            intro w1 hSw
            replace hSw : Below W.heap.size W w1 := hSw
            obtain ⟨x0, x1, x2, x3⟩ := (HT.out.up hSw).one
            obtain ⟨y0, y1, y2, y3⟩ := (HT.out.up hSw).two
            simp only [] at x0 x1 x2 x3 y0 y1 y2 y3
            go_simp
            (try with_reducible rfl)
          (try simp only [Act.put, List.getElem_toArray, List.getElem_cons_zero, List.getElem_cons_succ, List.setIfInBounds_toArray, List.set_cons_zero, List.set_cons_succ])
          refine wpAnyH_take (i := 2) (v := ?_) rfl (by decide +kernel) (by decide +kernel) (by decide +kernel) (fun _ _ _ h => h) (Or.inl ⟨by rfl, ?hy⟩) hcur ?_
          case hy =>
            intro w1 hSw
            replace hSw : Below W.heap.size W w1 := hSw
            obtain ⟨x0, x1, x2, x3⟩ := (HT.out.up hSw).one
            obtain ⟨y0, y1, y2, y3⟩ := (HT.out.up hSw).two
            simp only [] at x0 x1 x2 x3 y0 y1 y2 y3
            go_simp
            (try with_reducible rfl)
          (try simp only [Act.put, List.getElem_toArray, List.getElem_cons_zero, List.getElem_cons_succ, List.setIfInBounds_toArray, List.set_cons_zero, List.set_cons_succ])
          refine wpAnyH_ready (rs := [3]) (by decide +kernel) (by simp) ?_
          refine AllReadyH.cons rfl (fun K hK => ?_) AllReadyH.nil
          go_simp
          refine (HSo.out _ (HT.out.up hcur).pa).mono ?_
          rintro e wn ⟨rfl, hbn⟩
          go_wp2_with fail
          refine hK.out _ _ (below_of hcur hbn) (fun _ => ?_)
          clear hK K
          replace hcur := below_of hcur hbn
          clear hbn
          (try simp only [Act.put, List.getElem_toArray, List.getElem_cons_zero, List.getElem_cons_succ, List.setIfInBounds_toArray, List.set_cons_zero, List.set_cons_succ])
          refine wpAnyH_take (i := 4) (v := ?_) rfl (by decide +kernel) (by decide +kernel) (by decide +kernel) (fun _ _ _ h => h) (Or.inl ⟨by rfl, ?hy⟩) hcur ?_
          case hy =>
            intro w1 hSw
            replace hSw : Below W.heap.size W w1 := hSw
            obtain ⟨x0, x1, x2, x3⟩ := (HT.out.up hSw).one
            obtain ⟨y0, y1, y2, y3⟩ := (HT.out.up hSw).two
            simp only [] at x0 x1 x2 x3 y0 y1 y2 y3
            go_simp
            (try with_reducible rfl)
          (try simp only [Act.put, List.getElem_toArray, List.getElem_cons_zero, List.getElem_cons_succ, List.setIfInBounds_toArray, List.set_cons_zero, List.set_cons_succ])
          refine wpAnyH_take (i := 5) (v := ?_) rfl (by decide +kernel) (by decide +kernel) (by decide +kernel) (fun _ _ _ h => h) (Or.inl ⟨by rfl, ?hy⟩) hcur ?_
          case hy =>
            intro w1 hSw
            replace hSw : Below W.heap.size W w1 := hSw
            obtain ⟨x0, x1, x2, x3⟩ := (HT.out.up hSw).one
            obtain ⟨y0, y1, y2, y3⟩ := (HT.out.up hSw).two
            simp only [] at x0 x1 x2 x3 y0 y1 y2 y3
            go_simp
            (try with_reducible rfl)
          (try simp only [Act.put, List.getElem_toArray, List.getElem_cons_zero, List.getElem_cons_succ, List.setIfInBounds_toArray, List.set_cons_zero, List.set_cons_succ])
          refine wpAnyH_take (i := 6) (v := ?_) rfl (by decide +kernel) (by decide +kernel) (by decide +kernel) (fun _ _ _ h => h) (Or.inl ⟨by rfl, ?hy⟩) hcur ?_
          case hy =>
            intro w1 hSw
            replace hSw : Below W.heap.size W w1 := hSw
            obtain ⟨x0, x1, x2, x3⟩ := (HT.out.up hSw).one
            obtain ⟨y0, y1, y2, y3⟩ := (HT.out.up hSw).two
            simp only [] at x0 x1 x2 x3 y0 y1 y2 y3
            go_simp
            (try with_reducible rfl)
          (try simp only [Act.put, List.getElem_toArray, List.getElem_cons_zero, List.getElem_cons_succ, List.setIfInBounds_toArray, List.set_cons_zero, List.set_cons_succ])
          refine wpAnyH_take (i := 7) (v := ?_) rfl (by decide +kernel) (by decide +kernel) (by decide +kernel) (fun _ _ _ h => h) (Or.inl ⟨by rfl, ?hy⟩) hcur ?_
          case hy =>
            intro w1 hSw
            replace hSw : Below W.heap.size W w1 := hSw
            obtain ⟨x0, x1, x2, x3⟩ := (HT.out.up hSw).one
            obtain ⟨y0, y1, y2, y3⟩ := (HT.out.up hSw).two
            simp only [] at x0 x1 x2 x3 y0 y1 y2 y3
            go_simp
            (try with_reducible rfl)
          (try simp only [Act.put, List.getElem_toArray, List.getElem_cons_zero, List.getElem_cons_succ, List.setIfInBounds_toArray, List.set_cons_zero, List.set_cons_succ])
          refine wpAnyH_take (i := 8) (v := ?_) rfl (by decide +kernel) (by decide +kernel) (by decide +kernel) (fun _ _ _ h => h) (Or.inl ⟨by rfl, ?hy⟩) hcur ?_
          case hy =>
            intro w1 hSw
            replace hSw : Below W.heap.size W w1 := hSw
            obtain ⟨x0, x1, x2, x3⟩ := (HT.out.up hSw).one
            obtain ⟨y0, y1, y2, y3⟩ := (HT.out.up hSw).two
            simp only [] at x0 x1 x2 x3 y0 y1 y2 y3
            go_simp
            (try with_reducible rfl)
          (try simp only [Act.put, List.getElem_toArray, List.getElem_cons_zero, List.getElem_cons_succ, List.setIfInBounds_toArray, List.set_cons_zero, List.set_cons_succ])
          refine wpAnyH_take (i := 9) rfl (by decide +kernel) (by decide +kernel) (by decide +kernel) (fun _ _ _ h => h) (Or.inr ⟨by rfl, rfl⟩) hcur ?_
          (try simp only [Act.put, List.getElem_toArray, List.getElem_cons_zero, List.getElem_cons_succ, List.setIfInBounds_toArray, List.set_cons_zero, List.set_cons_succ])
          refine wpAnyH_take (i := 10) rfl (by decide +kernel) (by decide +kernel) (by decide +kernel) (fun _ _ _ h => h) (Or.inr ⟨by rfl, rfl⟩) hcur ?_
          (try simp only [Act.put, List.getElem_toArray, List.getElem_cons_zero, List.getElem_cons_succ, List.setIfInBounds_toArray, List.set_cons_zero, List.set_cons_succ])
          refine wpAnyH_take (i := 11) (v := ?_) rfl (by decide +kernel) (by decide +kernel) (by decide +kernel) (fun _ _ _ h => h) (Or.inl ⟨by rfl, ?hy⟩) hcur ?_
          case hy =>
            intro w1 hSw
            replace hSw : Below W.heap.size W w1 := hSw
            obtain ⟨x0, x1, x2, x3⟩ := (HT.out.up hSw).one
            obtain ⟨y0, y1, y2, y3⟩ := (HT.out.up hSw).two
            simp only [] at x0 x1 x2 x3 y0 y1 y2 y3
            go_simp
            (try with_reducible rfl)
          (try simp only [Act.put, List.getElem_toArray, List.getElem_cons_zero, List.getElem_cons_succ, List.setIfInBounds_toArray, List.set_cons_zero, List.set_cons_succ])
          refine wpAnyH_take (i := 12) (v := ?_) rfl (by decide +kernel) (by decide +kernel) (by decide +kernel) (fun _ _ _ h => h) (Or.inl ⟨by rfl, ?hy⟩) hcur ?_
          case hy =>
            intro w1 hSw
            replace hSw : Below W.heap.size W w1 := hSw
            obtain ⟨x0, x1, x2, x3⟩ := (HT.out.up hSw).one
            obtain ⟨y0, y1, y2, y3⟩ := (HT.out.up hSw).two
            simp only [] at x0 x1 x2 x3 y0 y1 y2 y3
            go_simp
            (try with_reducible rfl)
          (try simp only [Act.put, List.getElem_toArray, List.getElem_cons_zero, List.getElem_cons_succ, List.setIfInBounds_toArray, List.set_cons_zero, List.set_cons_succ])
          refine wpAnyH_take (i := 13) (v := ?_) rfl (by decide +kernel) (by decide +kernel) (by decide +kernel) (fun _ _ _ h => h) (Or.inl ⟨by rfl, ?hy⟩) hcur ?_
          case hy =>
            intro w1 hSw
            replace hSw : Below W.heap.size W w1 := hSw
            obtain ⟨x0, x1, x2, x3⟩ := (HT.out.up hSw).one
            obtain ⟨y0, y1, y2, y3⟩ := (HT.out.up hSw).two
            simp only [] at x0 x1 x2 x3 y0 y1 y2 y3
            go_simp
            (try with_reducible rfl)
          (try simp only [Act.put, List.getElem_toArray, List.getElem_cons_zero, List.getElem_cons_succ, List.setIfInBounds_toArray, List.set_cons_zero, List.set_cons_succ])
          refine wpAnyH_take (i := 14) (v := ?_) rfl (by decide +kernel) (by decide +kernel) (by decide +kernel) (fun _ _ _ h => h) (Or.inl ⟨by rfl, ?hy⟩) hcur ?_
          case hy =>
            intro w1 hSw
            replace hSw : Below W.heap.size W w1 := hSw
            obtain ⟨x0, x1, x2, x3⟩ := (HT.out.up hSw).one
            obtain ⟨y0, y1, y2, y3⟩ := (HT.out.up hSw).two
            simp only [] at x0 x1 x2 x3 y0 y1 y2 y3
            go_simp
            (try with_reducible rfl)
          (try simp only [Act.put, List.getElem_toArray, List.getElem_cons_zero, List.getElem_cons_succ, List.setIfInBounds_toArray, List.set_cons_zero, List.set_cons_succ])
          refine wpAnyH_take (i := 15) (v := ?_) rfl (by decide +kernel) (by decide +kernel) (by decide +kernel) (fun _ _ _ h => h) (Or.inl ⟨by rfl, ?hy⟩) hcur ?_
          case hy =>
            intro w1 hSw
            replace hSw : Below W.heap.size W w1 := hSw
            obtain ⟨x0, x1, x2, x3⟩ := (HT.out.up hSw).one
            obtain ⟨y0, y1, y2, y3⟩ := (HT.out.up hSw).two
            simp only [] at x0 x1 x2 x3 y0 y1 y2 y3
            go_simp
            (try with_reducible rfl)
          (try simp only [Act.put, List.getElem_toArray, List.getElem_cons_zero, List.getElem_cons_succ, List.setIfInBounds_toArray, List.set_cons_zero, List.set_cons_succ])
          refine wpAnyH_take (i := 17) (v := ?_) rfl (by decide +kernel) (by decide +kernel) (by decide +kernel) (fun _ _ _ h => h) (Or.inl ⟨by rfl, ?hy⟩) hcur ?_
          case hy =>
            intro w1 hSw
            replace hSw : Below W.heap.size W w1 := hSw
            obtain ⟨x0, x1, x2, x3⟩ := (HT.out.up hSw).one
            obtain ⟨y0, y1, y2, y3⟩ := (HT.out.up hSw).two
            simp only [] at x0 x1 x2 x3 y0 y1 y2 y3
            go_simp
            (try with_reducible rfl)
          (try simp only [Act.put, List.getElem_toArray, List.getElem_cons_zero, List.getElem_cons_succ, List.setIfInBounds_toArray, List.set_cons_zero, List.set_cons_succ])
          refine wpAnyH_take (i := 18) (v := ?_) rfl (by decide +kernel) (by decide +kernel) (by decide +kernel) (fun _ _ _ h => h) (Or.inl ⟨by rfl, ?hy⟩) hcur ?_
          case hy =>
            intro w1 hSw
            replace hSw : Below W.heap.size W w1 := hSw
            obtain ⟨x0, x1, x2, x3⟩ := (HT.out.up hSw).one
            obtain ⟨y0, y1, y2, y3⟩ := (HT.out.up hSw).two
            simp only [] at x0 x1 x2 x3 y0 y1 y2 y3
            go_simp
            (try with_reducible rfl)
          (try simp only [Act.put, List.getElem_toArray, List.getElem_cons_zero, List.getElem_cons_succ, List.setIfInBounds_toArray, List.set_cons_zero, List.set_cons_succ])
          refine wpAnyH_ready (rs := [16]) (by decide +kernel) (by simp) ?_
          refine AllReadyH.cons rfl (fun K hK => ?_) AllReadyH.nil
          go_simp
          refine (HSm.out _ (HT.out.up hcur).pa (HT.out.up hcur).pb).mono ?_
          rintro e wn ⟨rfl, hbn⟩
          go_wp2_with fail
          refine hK.out _ _ (below_of hcur hbn) (fun _ => ?_)
          clear hK K
          replace hcur := below_of hcur hbn
          clear hbn
          (try simp only [Act.put, List.getElem_toArray, List.getElem_cons_zero, List.getElem_cons_succ, List.setIfInBounds_toArray, List.set_cons_zero, List.set_cons_succ])
          refine wpAnyH_ready (rs := [19]) (by decide +kernel) (by simp) ?_
          refine AllReadyH.cons rfl (fun K hK => ?_) AllReadyH.nil
          go_simp
          refine (HSr.out _ (HT.out.up hcur).pa (HT.out.up hcur).pb).mono ?_
          rintro e wn ⟨rfl, hbn⟩
          go_wp2_with fail
          refine hK.out _ _ (below_of hcur hbn) (fun _ => ?_)
          clear hK K
          replace hcur := below_of hcur hbn
          clear hbn
          (try simp only [Act.put, List.getElem_toArray, List.getElem_cons_zero, List.getElem_cons_succ, List.setIfInBounds_toArray, List.set_cons_zero, List.set_cons_succ])
          refine wpAnyH_take (i := 20) (v := ?_) rfl (by decide +kernel) (by decide +kernel) (by decide +kernel) (fun _ _ _ h => h) (Or.inl ⟨by rfl, ?hy⟩) hcur ?_
          case hy =>
            intro w1 hSw
            replace hSw : Below W.heap.size W w1 := hSw
            obtain ⟨x0, x1, x2, x3⟩ := (HT.out.up hSw).one
            obtain ⟨y0, y1, y2, y3⟩ := (HT.out.up hSw).two
            simp only [] at x0 x1 x2 x3 y0 y1 y2 y3
            go_simp
            (try with_reducible rfl)
          (try simp only [Act.put, List.getElem_toArray, List.getElem_cons_zero, List.getElem_cons_succ, List.setIfInBounds_toArray, List.set_cons_zero, List.set_cons_succ])
          refine wpAnyH_take (i := 21) (v := ?_) rfl (by decide +kernel) (by decide +kernel) (by decide +kernel) (fun _ _ _ h => h) (Or.inl ⟨by rfl, ?hy⟩) hcur ?_
          case hy =>
            intro w1 hSw
            replace hSw : Below W.heap.size W w1 := hSw
            obtain ⟨x0, x1, x2, x3⟩ := (HT.out.up hSw).one
            obtain ⟨y0, y1, y2, y3⟩ := (HT.out.up hSw).two
            simp only [] at x0 x1 x2 x3 y0 y1 y2 y3
            go_simp
            (try with_reducible rfl)
          (try simp only [Act.put, List.getElem_toArray, List.getElem_cons_zero, List.getElem_cons_succ, List.setIfInBounds_toArray, List.set_cons_zero, List.set_cons_succ])
          refine wpAnyH_take (i := 22) (v := ?_) rfl (by decide +kernel) (by decide +kernel) (by decide +kernel) (fun _ _ _ h => h) (Or.inl ⟨by rfl, ?hy⟩) hcur ?_
          case hy =>
            intro w1 hSw
            replace hSw : Below W.heap.size W w1 := hSw
            obtain ⟨x0, x1, x2, x3⟩ := (HT.out.up hSw).one
            obtain ⟨y0, y1, y2, y3⟩ := (HT.out.up hSw).two
            simp only [] at x0 x1 x2 x3 y0 y1 y2 y3
            go_simp
            (try with_reducible rfl)
          (try simp only [Act.put, List.getElem_toArray, List.getElem_cons_zero, List.getElem_cons_succ, List.setIfInBounds_toArray, List.set_cons_zero, List.set_cons_succ])
          refine wpAnyH_take (i := 23) (v := ?_) rfl (by decide +kernel) (by decide +kernel) (by decide +kernel) (fun _ _ _ h => h) (Or.inl ⟨by rfl, ?hy⟩) hcur ?_
          case hy =>
            intro w1 hSw
            replace hSw : Below W.heap.size W w1 := hSw
            obtain ⟨x0, x1, x2, x3⟩ := (HT.out.up hSw).one
            obtain ⟨y0, y1, y2, y3⟩ := (HT.out.up hSw).two
            simp only [] at x0 x1 x2 x3 y0 y1 y2 y3
            go_simp
            (try with_reducible rfl)
          (try simp only [Act.put, List.getElem_toArray, List.getElem_cons_zero, List.getElem_cons_succ, List.setIfInBounds_toArray, List.set_cons_zero, List.set_cons_succ])
          refine wpAnyH_take (i := 24) (v := ?_) rfl (by decide +kernel) (by decide +kernel) (by decide +kernel) (fun _ _ _ h => h) (Or.inl ⟨by rfl, ?hy⟩) hcur ?_
          case hy =>
            intro w1 hSw
            replace hSw : Below W.heap.size W w1 := hSw
            obtain ⟨x0, x1, x2, x3⟩ := (HT.out.up hSw).one
            obtain ⟨y0, y1, y2, y3⟩ := (HT.out.up hSw).two
            simp only [] at x0 x1 x2 x3 y0 y1 y2 y3
            go_simp
            (try with_reducible rfl)
          (try simp only [Act.put, List.getElem_toArray, List.getElem_cons_zero, List.getElem_cons_succ, List.setIfInBounds_toArray, List.set_cons_zero, List.set_cons_succ])
          refine wpAnyH_ready (rs := [25]) (by decide +kernel) (by simp) ?_
          refine AllReadyH.cons rfl (fun K hK => ?_) AllReadyH.nil
          go_simp
          refine (HSa.out _ (HT.out.up hcur).pa).mono ?_
          rintro e wn ⟨rfl, hbn⟩
          go_wp2_with fail
          refine hK.out _ _ (below_of hcur hbn) (fun _ => ?_)
          clear hK K
          replace hcur := below_of hcur hbn
          clear hbn
          (try simp only [Act.put, List.getElem_toArray, List.getElem_cons_zero, List.getElem_cons_succ, List.setIfInBounds_toArray, List.set_cons_zero, List.set_cons_succ])
          refine wpAnyH_take (i := 26) (v := ?_) rfl (by decide +kernel) (by decide +kernel) (by decide +kernel) (fun _ _ _ h => h) (Or.inl ⟨by rfl, ?hy⟩) hcur ?_
          case hy =>
            intro w1 hSw
            replace hSw : Below W.heap.size W w1 := hSw
            obtain ⟨x0, x1, x2, x3⟩ := (HT.out.up hSw).one
            obtain ⟨y0, y1, y2, y3⟩ := (HT.out.up hSw).two
            simp only [] at x0 x1 x2 x3 y0 y1 y2 y3
            go_simp
            (try with_reducible rfl)
          (try simp only [Act.put, List.getElem_toArray, List.getElem_cons_zero, List.getElem_cons_succ, List.setIfInBounds_toArray, List.set_cons_zero, List.set_cons_succ])
          refine wpAnyH_take (i := 27) (v := ?_) rfl (by decide +kernel) (by decide +kernel) (by decide +kernel) (fun _ _ _ h => h) (Or.inl ⟨by rfl, ?hy⟩) hcur ?_
          case hy =>
            intro w1 hSw
            replace hSw : Below W.heap.size W w1 := hSw
            obtain ⟨x0, x1, x2, x3⟩ := (HT.out.up hSw).one
            obtain ⟨y0, y1, y2, y3⟩ := (HT.out.up hSw).two
            simp only [] at x0 x1 x2 x3 y0 y1 y2 y3
            go_simp
            (try with_reducible rfl)
          (try simp only [Act.put, List.getElem_toArray, List.getElem_cons_zero, List.getElem_cons_succ, List.setIfInBounds_toArray, List.set_cons_zero, List.set_cons_succ])
          refine wpAnyH_take (i := 28) (v := ?_) rfl (by decide +kernel) (by decide +kernel) (by decide +kernel) (fun _ _ _ h => h) (Or.inl ⟨by rfl, ?hy⟩) hcur ?_
          case hy =>
            intro w1 hSw
            replace hSw : Below W.heap.size W w1 := hSw
            obtain ⟨x0, x1, x2, x3⟩ := (HT.out.up hSw).one
            obtain ⟨y0, y1, y2, y3⟩ := (HT.out.up hSw).two
            simp only [] at x0 x1 x2 x3 y0 y1 y2 y3
            go_simp
            (try with_reducible rfl)
          (try simp only [Act.put, List.getElem_toArray, List.getElem_cons_zero, List.getElem_cons_succ, List.setIfInBounds_toArray, List.set_cons_zero, List.set_cons_succ])
          refine wpAnyH_take (i := 29) (v := ?_) rfl (by decide +kernel) (by decide +kernel) (by decide +kernel) (fun _ _ _ h => h) (Or.inl ⟨by rfl, ?hy⟩) hcur ?_
          case hy =>
            intro w1 hSw
            replace hSw : Below W.heap.size W w1 := hSw
            obtain ⟨x0, x1, x2, x3⟩ := (HT.out.up hSw).one
            obtain ⟨y0, y1, y2, y3⟩ := (HT.out.up hSw).two
            simp only [] at x0 x1 x2 x3 y0 y1 y2 y3
            go_simp
            (try with_reducible rfl)
          (try simp only [Act.put, List.getElem_toArray, List.getElem_cons_zero, List.getElem_cons_succ, List.setIfInBounds_toArray, List.set_cons_zero, List.set_cons_succ])
          refine wpAnyH_take (i := 31) (v := ?_) rfl (by decide +kernel) (by decide +kernel) (by decide +kernel) (fun _ _ _ h => h) (Or.inl ⟨by rfl, ?hy⟩) hcur ?_
          case hy =>
            intro w1 hSw
            replace hSw : Below W.heap.size W w1 := hSw
            obtain ⟨x0, x1, x2, x3⟩ := (HT.out.up hSw).one
            obtain ⟨y0, y1, y2, y3⟩ := (HT.out.up hSw).two
            simp only [] at x0 x1 x2 x3 y0 y1 y2 y3
            go_simp
            (try with_reducible rfl)
          (try simp only [Act.put, List.getElem_toArray, List.getElem_cons_zero, List.getElem_cons_succ, List.setIfInBounds_toArray, List.set_cons_zero, List.set_cons_succ])
          refine wpAnyH_take (i := 32) (v := ?_) rfl (by decide +kernel) (by decide +kernel) (by decide +kernel) (fun _ _ _ h => h) (Or.inl ⟨by rfl, ?hy⟩) hcur ?_
          case hy =>
            intro w1 hSw
            replace hSw : Below W.heap.size W w1 := hSw
            obtain ⟨x0, x1, x2, x3⟩ := (HT.out.up hSw).one
            obtain ⟨y0, y1, y2, y3⟩ := (HT.out.up hSw).two
            simp only [] at x0 x1 x2 x3 y0 y1 y2 y3
            go_simp
            (try with_reducible rfl)
          (try simp only [Act.put, List.getElem_toArray, List.getElem_cons_zero, List.getElem_cons_succ, List.setIfInBounds_toArray, List.set_cons_zero, List.set_cons_succ])
          refine wpAnyH_ready (rs := [30]) (by decide +kernel) (by simp) ?_
          refine AllReadyH.cons rfl (fun K hK => ?_) AllReadyH.nil
          go_simp
          refine (ansname_any _ _).mono ?_
          rintro e wn ⟨rfl, hbn⟩
          go_wp2_with fail
          refine hK.out _ _ (below_of hcur hbn) (fun _ => ?_)
          clear hK K
          replace hcur := below_of hcur hbn
          clear hbn
          (try simp only [Act.put, List.getElem_toArray, List.getElem_cons_zero, List.getElem_cons_succ, List.setIfInBounds_toArray, List.set_cons_zero, List.set_cons_succ])
          refine wpAnyH_ready (rs := [33]) (by decide +kernel) (by simp) ?_
          refine AllReadyH.cons rfl (fun K hK => ?_) AllReadyH.nil
          go_simp
          refine (refname17_any _ _).mono ?_
          rintro e wn ⟨rfl, hbn⟩
          go_wp2_with fail
          refine hK.out _ _ (below_of hcur hbn) (fun _ => ?_)
          clear hK K
          replace hcur := below_of hcur hbn
          clear hbn
          (try simp only [Act.put, List.getElem_toArray, List.getElem_cons_zero, List.getElem_cons_succ, List.setIfInBounds_toArray, List.set_cons_zero, List.set_cons_succ])
          refine wpAnyH_take (i := 34) (v := ?_) rfl (by decide +kernel) (by decide +kernel) (by decide +kernel) (fun _ _ _ h => h) (Or.inl ⟨by rfl, ?hy⟩) hcur ?_
          case hy =>
            intro w1 hSw
            replace hSw : Below W.heap.size W w1 := hSw
            obtain ⟨x0, x1, x2, x3⟩ := (HT.out.up hSw).one
            obtain ⟨y0, y1, y2, y3⟩ := (HT.out.up hSw).two
            simp only [] at x0 x1 x2 x3 y0 y1 y2 y3
            go_simp
            (try with_reducible rfl)
          (try simp only [Act.put, List.getElem_toArray, List.getElem_cons_zero, List.getElem_cons_succ, List.setIfInBounds_toArray, List.set_cons_zero, List.set_cons_succ])
          refine wpAnyH_take (i := 35) (v := ?_) rfl (by decide +kernel) (by decide +kernel) (by decide +kernel) (fun _ _ _ h => h) (Or.inl ⟨by rfl, ?hy⟩) hcur ?_
          case hy =>
            intro w1 hSw
            replace hSw : Below W.heap.size W w1 := hSw
            obtain ⟨x0, x1, x2, x3⟩ := (HT.out.up hSw).one
            obtain ⟨y0, y1, y2, y3⟩ := (HT.out.up hSw).two
            simp only [] at x0 x1 x2 x3 y0 y1 y2 y3
            go_simp
            (try with_reducible rfl)
          (try simp only [Act.put, List.getElem_toArray, List.getElem_cons_zero, List.getElem_cons_succ, List.setIfInBounds_toArray, List.set_cons_zero, List.set_cons_succ])
          refine wpAnyH_take (i := 36) (v := ?_) rfl (by decide +kernel) (by decide +kernel) (by decide +kernel) (fun _ _ _ h => h) (Or.inl ⟨by rfl, ?hy⟩) hcur ?_
          case hy =>
            intro w1 hSw
            replace hSw : Below W.heap.size W w1 := hSw
            obtain ⟨x0, x1, x2, x3⟩ := (HT.out.up hSw).one
            obtain ⟨y0, y1, y2, y3⟩ := (HT.out.up hSw).two
            simp only [] at x0 x1 x2 x3 y0 y1 y2 y3
            go_simp
            (try with_reducible rfl)
          (try simp only [Act.put, List.getElem_toArray, List.getElem_cons_zero, List.getElem_cons_succ, List.setIfInBounds_toArray, List.set_cons_zero, List.set_cons_succ])
          refine wpAnyH_ready (rs := [37]) (by decide +kernel) (by simp) ?_
          refine AllReadyH.cons rfl (fun K hK => ?_) AllReadyH.nil
          go_simp
          refine (lives17_any _).mono ?_
          rintro e wn ⟨rfl, hbn⟩
          go_wp2_with fail
          refine hK.out _ _ (below_of hcur hbn) (fun _ => ?_)
          clear hK K
          replace hcur := below_of hcur hbn
          clear hbn
          (try simp only [Act.put, List.getElem_toArray, List.getElem_cons_zero, List.getElem_cons_succ, List.setIfInBounds_toArray, List.set_cons_zero, List.set_cons_succ])
          refine wpAnyH_take (i := 38) (v := ?_) rfl (by decide +kernel) (by decide +kernel) (by decide +kernel) (fun _ _ _ h => h) (Or.inl ⟨by rfl, ?hy⟩) hcur ?_
          case hy =>
            intro w1 hSw
            replace hSw : Below W.heap.size W w1 := hSw
            obtain ⟨x0, x1, x2, x3⟩ := (HT.out.up hSw).one
            obtain ⟨y0, y1, y2, y3⟩ := (HT.out.up hSw).two
            simp only [] at x0 x1 x2 x3 y0 y1 y2 y3
            go_simp
            (try with_reducible rfl)
          (try simp only [Act.put, List.getElem_toArray, List.getElem_cons_zero, List.getElem_cons_succ, List.setIfInBounds_toArray, List.set_cons_zero, List.set_cons_succ])
          refine wpAnyH_take (i := 39) (v := ?_) rfl (by decide +kernel) (by decide +kernel) (by decide +kernel) (fun _ _ _ h => h) (Or.inl ⟨by rfl, ?hy⟩) hcur ?_
          case hy =>
            intro w1 hSw
            replace hSw : Below W.heap.size W w1 := hSw
            obtain ⟨x0, x1, x2, x3⟩ := (HT.out.up hSw).one
            obtain ⟨y0, y1, y2, y3⟩ := (HT.out.up hSw).two
            simp only [] at x0 x1 x2 x3 y0 y1 y2 y3
            go_simp
            (try with_reducible rfl)
          (try simp only [Act.put, List.getElem_toArray, List.getElem_cons_zero, List.getElem_cons_succ, List.setIfInBounds_toArray, List.set_cons_zero, List.set_cons_succ])
          refine wpAnyH_done (by decide +kernel) ?_ _
          go_wp2_with fail
          go_ret
          exact ⟨rfl, below_of HT.out.bel hcur⟩
        · go_wp2_with fail
          refine (ansof_any ⟨key, val⟩ true _).mono ?_
          rintro e W4 ⟨rfl, hbn⟩
          clear x0 x1 x2 x3 y0 y1 y2 y3
          replace HT := Lib.hid (HT.out.up hbn)
          clear hbn
          have e2 : ansCells (ofA ⟨key, val⟩ true) none 0 = #[.int .i64 1, .string key, .int .u64 (val : Int), .slice none 0 0] := rfl
          rw [e2]
          clear e2
          have hx := AnsAt.new W4 ⟨1, key, val, []⟩ none 0 25
          have hgt : W4.heap.size < (W4.alloc (.cells (ansCells ⟨1, key, val, []⟩ none 0) 25)).heap.size := by simp
          replace HT := Lib.hid (HT.out.up (below_alloc W4 (.cells (ansCells ⟨1, key, val, []⟩ none 0) 25)))
          simp only [ansCells] at hx hgt HT
          go_upto_region 5 with fail
          generalize W4.alloc _ = W5 at HT hx hgt ⊢
          generalize W4.heap.size = g8 at hx hgt ⊢
          obtain ⟨x0, x1, x2, x3⟩ := HT.out.one
          obtain ⟨y0, y1, y2, y3⟩ := HT.out.two
          simp only [] at x0 x1 x2 x3 y0 y1 y2 y3
          obtain ⟨z0, z1, z2, z3⟩ := hx
          simp only [List.length_nil] at z0 z1 z2 z3
          go_wp2_with fail
          refine (Calls.as_ (refsame17_any ⟨1, key, val, []⟩ ⟨1, key, val, []⟩ none none 0 0 _ (prs_nil _ _) (prs_nil _ _) (Nat.zero_le _)) (congrArg Value.bool (ansB_self _))).mono ?_
          rintro e W ⟨rfl, hbn⟩
          clear z0 z1 z2 z3
          clear x0 x1 x2 x3 y0 y1 y2 y3
          replace HT := Lib.hid (HT.out.up hbn)
          clear hbn
          go_upto_region 7 with fail
          refine wp_region_held_drew (S := fun w' => Below W.heap.size W w') (by kernel_rfl) (Below.drew (Below.refl _ _)) (fun hcur => ?_)
          replace hcur : Below W.heap.size W W.drew := hcur
          refine wpAnyH_take (i := 0) (v := ?_) rfl (by decide +kernel) (by decide +kernel) (by decide +kernel) (fun _ _ _ h => h) (Or.inl ⟨by rfl, ?hy⟩) hcur ?_
          case hy =>
            intro w1 hSw
            replace hSw : Below W.heap.size W w1 := hSw
            obtain ⟨x0, x1, x2, x3⟩ := (HT.out.up hSw).one
            obtain ⟨y0, y1, y2, y3⟩ := (HT.out.up hSw).two
            simp only [] at x0 x1 x2 x3 y0 y1 y2 y3
            go_simp
            (try with_reducible rfl)
          (try simp only [Act.put, List.getElem_toArray, List.getElem_cons_zero, List.getElem_cons_succ, List.setIfInBounds_toArray, List.set_cons_zero, List.set_cons_succ])
          refine wpAnyH_take (i := 1) (v := ?_) rfl (by decide +kernel) (by decide +kernel) (by decide +kernel) (fun _ _ _ h => h) (Or.inl ⟨by rfl, ?hy⟩) hcur ?_
          case hy =>
            intro w1 hSw
            replace hSw : Below W.heap.size W w1 := hSw
            obtain ⟨x0, x1, x2, x3⟩ := (HT.out.up hSw).one
            obtain ⟨y0, y1, y2, y3⟩ := (HT.out.up hSw).two
            simp only [] at x0 x1 x2 x3 y0 y1 y2 y3
            go_simp
            (try with_reducible rfl)
          (try simp only [Act.put, List.getElem_toArray, List.getElem_cons_zero, List.getElem_cons_succ, List.setIfInBounds_toArray, List.set_cons_zero, List.set_cons_succ])
          refine wpAnyH_take (i := 2) (v := ?_) rfl (by decide +kernel) (by decide +kernel) (by decide +kernel) (fun _ _ _ h => h) (Or.inl ⟨by rfl, ?hy⟩) hcur ?_
          case hy =>
            intro w1 hSw
            replace hSw : Below W.heap.size W w1 := hSw
            obtain ⟨x0, x1, x2, x3⟩ := (HT.out.up hSw).one
            obtain ⟨y0, y1, y2, y3⟩ := (HT.out.up hSw).two
            simp only [] at x0 x1 x2 x3 y0 y1 y2 y3
            go_simp
            (try with_reducible rfl)
          (try simp only [Act.put, List.getElem_toArray, List.getElem_cons_zero, List.getElem_cons_succ, List.setIfInBounds_toArray, List.set_cons_zero, List.set_cons_succ])
          refine wpAnyH_ready (rs := [3]) (by decide +kernel) (by simp) ?_
          refine AllReadyH.cons rfl (fun K hK => ?_) AllReadyH.nil
          go_simp
          refine (HSo.out _ (HT.out.up hcur).pa).mono ?_
          rintro e wn ⟨rfl, hbn⟩
          go_wp2_with fail
          refine hK.out _ _ (below_of hcur hbn) (fun _ => ?_)
          clear hK K
          replace hcur := below_of hcur hbn
          clear hbn
          (try simp only [Act.put, List.getElem_toArray, List.getElem_cons_zero, List.getElem_cons_succ, List.setIfInBounds_toArray, List.set_cons_zero, List.set_cons_succ])
          refine wpAnyH_take (i := 4) (v := ?_) rfl (by decide +kernel) (by decide +kernel) (by decide +kernel) (fun _ _ _ h => h) (Or.inl ⟨by rfl, ?hy⟩) hcur ?_
          case hy =>
            intro w1 hSw
            replace hSw : Below W.heap.size W w1 := hSw
            obtain ⟨x0, x1, x2, x3⟩ := (HT.out.up hSw).one
            obtain ⟨y0, y1, y2, y3⟩ := (HT.out.up hSw).two
            simp only [] at x0 x1 x2 x3 y0 y1 y2 y3
            go_simp
            (try with_reducible rfl)
          (try simp only [Act.put, List.getElem_toArray, List.getElem_cons_zero, List.getElem_cons_succ, List.setIfInBounds_toArray, List.set_cons_zero, List.set_cons_succ])
          refine wpAnyH_take (i := 5) (v := ?_) rfl (by decide +kernel) (by decide +kernel) (by decide +kernel) (fun _ _ _ h => h) (Or.inl ⟨by rfl, ?hy⟩) hcur ?_
          case hy =>
            intro w1 hSw
            replace hSw : Below W.heap.size W w1 := hSw
            obtain ⟨x0, x1, x2, x3⟩ := (HT.out.up hSw).one
            obtain ⟨y0, y1, y2, y3⟩ := (HT.out.up hSw).two
            simp only [] at x0 x1 x2 x3 y0 y1 y2 y3
            go_simp
            (try with_reducible rfl)
          (try simp only [Act.put, List.getElem_toArray, List.getElem_cons_zero, List.getElem_cons_succ, List.setIfInBounds_toArray, List.set_cons_zero, List.set_cons_succ])
          refine wpAnyH_take (i := 6) (v := ?_) rfl (by decide +kernel) (by decide +kernel) (by decide +kernel) (fun _ _ _ h => h) (Or.inl ⟨by rfl, ?hy⟩) hcur ?_
          case hy =>
            intro w1 hSw
            replace hSw : Below W.heap.size W w1 := hSw
            obtain ⟨x0, x1, x2, x3⟩ := (HT.out.up hSw).one
            obtain ⟨y0, y1, y2, y3⟩ := (HT.out.up hSw).two
            simp only [] at x0 x1 x2 x3 y0 y1 y2 y3
            go_simp
            (try with_reducible rfl)
          (try simp only [Act.put, List.getElem_toArray, List.getElem_cons_zero, List.getElem_cons_succ, List.setIfInBounds_toArray, List.set_cons_zero, List.set_cons_succ])
          refine wpAnyH_take (i := 7) (v := ?_) rfl (by decide +kernel) (by decide +kernel) (by decide +kernel) (fun _ _ _ h => h) (Or.inl ⟨by rfl, ?hy⟩) hcur ?_
          case hy =>
            intro w1 hSw
            replace hSw : Below W.heap.size W w1 := hSw
            obtain ⟨x0, x1, x2, x3⟩ := (HT.out.up hSw).one
            obtain ⟨y0, y1, y2, y3⟩ := (HT.out.up hSw).two
            simp only [] at x0 x1 x2 x3 y0 y1 y2 y3
            go_simp
            (try with_reducible rfl)
          (try simp only [Act.put, List.getElem_toArray, List.getElem_cons_zero, List.getElem_cons_succ, List.setIfInBounds_toArray, List.set_cons_zero, List.set_cons_succ])
          refine wpAnyH_take (i := 8) (v := ?_) rfl (by decide +kernel) (by decide +kernel) (by decide +kernel) (fun _ _ _ h => h) (Or.inl ⟨by rfl, ?hy⟩) hcur ?_
          case hy =>
            intro w1 hSw
            replace hSw : Below W.heap.size W w1 := hSw
            obtain ⟨x0, x1, x2, x3⟩ := (HT.out.up hSw).one
            obtain ⟨y0, y1, y2, y3⟩ := (HT.out.up hSw).two
            simp only [] at x0 x1 x2 x3 y0 y1 y2 y3
            go_simp
            (try with_reducible rfl)
          (try simp only [Act.put, List.getElem_toArray, List.getElem_cons_zero, List.getElem_cons_succ, List.setIfInBounds_toArray, List.set_cons_zero, List.set_cons_succ])
          refine wpAnyH_take (i := 9) rfl (by decide +kernel) (by decide +kernel) (by decide +kernel) (fun _ _ _ h => h) (Or.inr ⟨by rfl, rfl⟩) hcur ?_
          (try simp only [Act.put, List.getElem_toArray, List.getElem_cons_zero, List.getElem_cons_succ, List.setIfInBounds_toArray, List.set_cons_zero, List.set_cons_succ])
          refine wpAnyH_take (i := 10) rfl (by decide +kernel) (by decide +kernel) (by decide +kernel) (fun _ _ _ h => h) (Or.inr ⟨by rfl, rfl⟩) hcur ?_
          (try simp only [Act.put, List.getElem_toArray, List.getElem_cons_zero, List.getElem_cons_succ, List.setIfInBounds_toArray, List.set_cons_zero, List.set_cons_succ])
          refine wpAnyH_take (i := 11) (v := ?_) rfl (by decide +kernel) (by decide +kernel) (by decide +kernel) (fun _ _ _ h => h) (Or.inl ⟨by rfl, ?hy⟩) hcur ?_
          case hy =>
            intro w1 hSw
            replace hSw : Below W.heap.size W w1 := hSw
            obtain ⟨x0, x1, x2, x3⟩ := (HT.out.up hSw).one
            obtain ⟨y0, y1, y2, y3⟩ := (HT.out.up hSw).two
            simp only [] at x0 x1 x2 x3 y0 y1 y2 y3
            go_simp
            (try with_reducible rfl)
          (try simp only [Act.put, List.getElem_toArray, List.getElem_cons_zero, List.getElem_cons_succ, List.setIfInBounds_toArray, List.set_cons_zero, List.set_cons_succ])
          refine wpAnyH_take (i := 12) (v := ?_) rfl (by decide +kernel) (by decide +kernel) (by decide +kernel) (fun _ _ _ h => h) (Or.inl ⟨by rfl, ?hy⟩) hcur ?_
          case hy =>
            intro w1 hSw
            replace hSw : Below W.heap.size W w1 := hSw
            obtain ⟨x0, x1, x2, x3⟩ := (HT.out.up hSw).one
            obtain ⟨y0, y1, y2, y3⟩ := (HT.out.up hSw).two
            simp only [] at x0 x1 x2 x3 y0 y1 y2 y3
            go_simp
            (try with_reducible rfl)
          (try simp only [Act.put, List.getElem_toArray, List.getElem_cons_zero, List.getElem_cons_succ, List.setIfInBounds_toArray, List.set_cons_zero, List.set_cons_succ])
          refine wpAnyH_take (i := 13) (v := ?_) rfl (by decide +kernel) (by decide +kernel) (by decide +kernel) (fun _ _ _ h => h) (Or.inl ⟨by rfl, ?hy⟩) hcur ?_
          case hy =>
            intro w1 hSw
            replace hSw : Below W.heap.size W w1 := hSw
            obtain ⟨x0, x1, x2, x3⟩ := (HT.out.up hSw).one
            obtain ⟨y0, y1, y2, y3⟩ := (HT.out.up hSw).two
            simp only [] at x0 x1 x2 x3 y0 y1 y2 y3
            go_simp
            (try with_reducible rfl)
          (try simp only [Act.put, List.getElem_toArray, List.getElem_cons_zero, List.getElem_cons_succ, List.setIfInBounds_toArray, List.set_cons_zero, List.set_cons_succ])
          refine wpAnyH_take (i := 14) (v := ?_) rfl (by decide +kernel) (by decide +kernel) (by decide +kernel) (fun _ _ _ h => h) (Or.inl ⟨by rfl, ?hy⟩) hcur ?_
          case hy =>
            intro w1 hSw
            replace hSw : Below W.heap.size W w1 := hSw
            obtain ⟨x0, x1, x2, x3⟩ := (HT.out.up hSw).one
            obtain ⟨y0, y1, y2, y3⟩ := (HT.out.up hSw).two
            simp only [] at x0 x1 x2 x3 y0 y1 y2 y3
            go_simp
            (try with_reducible rfl)
          (try simp only [Act.put, List.getElem_toArray, List.getElem_cons_zero, List.getElem_cons_succ, List.setIfInBounds_toArray, List.set_cons_zero, List.set_cons_succ])
          refine wpAnyH_take (i := 15) (v := ?_) rfl (by decide +kernel) (by decide +kernel) (by decide +kernel) (fun _ _ _ h => h) (Or.inl ⟨by rfl, ?hy⟩) hcur ?_
          case hy =>
            intro w1 hSw
            replace hSw : Below W.heap.size W w1 := hSw
            obtain ⟨x0, x1, x2, x3⟩ := (HT.out.up hSw).one
            obtain ⟨y0, y1, y2, y3⟩ := (HT.out.up hSw).two
            simp only [] at x0 x1 x2 x3 y0 y1 y2 y3
            go_simp
            (try with_reducible rfl)
          (try simp only [Act.put, List.getElem_toArray, List.getElem_cons_zero, List.getElem_cons_succ, List.setIfInBounds_toArray, List.set_cons_zero, List.set_cons_succ])
          refine wpAnyH_take (i := 17) (v := ?_) rfl (by decide +kernel) (by decide +kernel) (by decide +kernel) (fun _ _ _ h => h) (Or.inl ⟨by rfl, ?hy⟩) hcur ?_
          case hy =>
            intro w1 hSw
            replace hSw : Below W.heap.size W w1 := hSw
            obtain ⟨x0, x1, x2, x3⟩ := (HT.out.up hSw).one
            obtain ⟨y0, y1, y2, y3⟩ := (HT.out.up hSw).two
            simp only [] at x0 x1 x2 x3 y0 y1 y2 y3
            go_simp
            (try with_reducible rfl)
          (try simp only [Act.put, List.getElem_toArray, List.getElem_cons_zero, List.getElem_cons_succ, List.setIfInBounds_toArray, List.set_cons_zero, List.set_cons_succ])
          refine wpAnyH_take (i := 18) (v := ?_) rfl (by decide +kernel) (by decide +kernel) (by decide +kernel) (fun _ _ _ h => h) (Or.inl ⟨by rfl, ?hy⟩) hcur ?_
          case hy =>
            intro w1 hSw
            replace hSw : Below W.heap.size W w1 := hSw
            obtain ⟨x0, x1, x2, x3⟩ := (HT.out.up hSw).one
            obtain ⟨y0, y1, y2, y3⟩ := (HT.out.up hSw).two
            simp only [] at x0 x1 x2 x3 y0 y1 y2 y3
            go_simp
            (try with_reducible rfl)
          (try simp only [Act.put, List.getElem_toArray, List.getElem_cons_zero, List.getElem_cons_succ, List.setIfInBounds_toArray, List.set_cons_zero, List.set_cons_succ])
          refine wpAnyH_ready (rs := [16]) (by decide +kernel) (by simp) ?_
          refine AllReadyH.cons rfl (fun K hK => ?_) AllReadyH.nil
          go_simp
          refine (HSm.out _ (HT.out.up hcur).pa (HT.out.up hcur).pb).mono ?_
          rintro e wn ⟨rfl, hbn⟩
          go_wp2_with fail
          refine hK.out _ _ (below_of hcur hbn) (fun _ => ?_)
          clear hK K
          replace hcur := below_of hcur hbn
          clear hbn
          (try simp only [Act.put, List.getElem_toArray, List.getElem_cons_zero, List.getElem_cons_succ, List.setIfInBounds_toArray, List.set_cons_zero, List.set_cons_succ])
          refine wpAnyH_ready (rs := [19]) (by decide +kernel) (by simp) ?_
          refine AllReadyH.cons rfl (fun K hK => ?_) AllReadyH.nil
          go_simp
          refine (HSr.out _ (HT.out.up hcur).pa (HT.out.up hcur).pb).mono ?_
          rintro e wn ⟨rfl, hbn⟩
          go_wp2_with fail
          refine hK.out _ _ (below_of hcur hbn) (fun _ => ?_)
          clear hK K
          replace hcur := below_of hcur hbn
          clear hbn
          (try simp only [Act.put, List.getElem_toArray, List.getElem_cons_zero, List.getElem_cons_succ, List.setIfInBounds_toArray, List.set_cons_zero, List.set_cons_succ])
          refine wpAnyH_take (i := 20) (v := ?_) rfl (by decide +kernel) (by decide +kernel) (by decide +kernel) (fun _ _ _ h => h) (Or.inl ⟨by rfl, ?hy⟩) hcur ?_
          case hy =>
            intro w1 hSw
            replace hSw : Below W.heap.size W w1 := hSw
            obtain ⟨x0, x1, x2, x3⟩ := (HT.out.up hSw).one
            obtain ⟨y0, y1, y2, y3⟩ := (HT.out.up hSw).two
            simp only [] at x0 x1 x2 x3 y0 y1 y2 y3
            go_simp
            (try with_reducible rfl)
          (try simp only [Act.put, List.getElem_toArray, List.getElem_cons_zero, List.getElem_cons_succ, List.setIfInBounds_toArray, List.set_cons_zero, List.set_cons_succ])
          refine wpAnyH_take (i := 21) (v := ?_) rfl (by decide +kernel) (by decide +kernel) (by decide +kernel) (fun _ _ _ h => h) (Or.inl ⟨by rfl, ?hy⟩) hcur ?_
          case hy =>
            intro w1 hSw
            replace hSw : Below W.heap.size W w1 := hSw
            obtain ⟨x0, x1, x2, x3⟩ := (HT.out.up hSw).one
            obtain ⟨y0, y1, y2, y3⟩ := (HT.out.up hSw).two
            simp only [] at x0 x1 x2 x3 y0 y1 y2 y3
            go_simp
            (try with_reducible rfl)
          (try simp only [Act.put, List.getElem_toArray, List.getElem_cons_zero, List.getElem_cons_succ, List.setIfInBounds_toArray, List.set_cons_zero, List.set_cons_succ])
          refine wpAnyH_take (i := 22) (v := ?_) rfl (by decide +kernel) (by decide +kernel) (by decide +kernel) (fun _ _ _ h => h) (Or.inl ⟨by rfl, ?hy⟩) hcur ?_
          case hy =>
            intro w1 hSw
            replace hSw : Below W.heap.size W w1 := hSw
            obtain ⟨x0, x1, x2, x3⟩ := (HT.out.up hSw).one
            obtain ⟨y0, y1, y2, y3⟩ := (HT.out.up hSw).two
            simp only [] at x0 x1 x2 x3 y0 y1 y2 y3
            go_simp
            (try with_reducible rfl)
          (try simp only [Act.put, List.getElem_toArray, List.getElem_cons_zero, List.getElem_cons_succ, List.setIfInBounds_toArray, List.set_cons_zero, List.set_cons_succ])
          refine wpAnyH_take (i := 23) (v := ?_) rfl (by decide +kernel) (by decide +kernel) (by decide +kernel) (fun _ _ _ h => h) (Or.inl ⟨by rfl, ?hy⟩) hcur ?_
          case hy =>
            intro w1 hSw
            replace hSw : Below W.heap.size W w1 := hSw
            obtain ⟨x0, x1, x2, x3⟩ := (HT.out.up hSw).one
            obtain ⟨y0, y1, y2, y3⟩ := (HT.out.up hSw).two
            simp only [] at x0 x1 x2 x3 y0 y1 y2 y3
            go_simp
            (try with_reducible rfl)
          (try simp only [Act.put, List.getElem_toArray, List.getElem_cons_zero, List.getElem_cons_succ, List.setIfInBounds_toArray, List.set_cons_zero, List.set_cons_succ])
          refine wpAnyH_take (i := 24) (v := ?_) rfl (by decide +kernel) (by decide +kernel) (by decide +kernel) (fun _ _ _ h => h) (Or.inl ⟨by rfl, ?hy⟩) hcur ?_
          case hy =>
            intro w1 hSw
            replace hSw : Below W.heap.size W w1 := hSw
            obtain ⟨x0, x1, x2, x3⟩ := (HT.out.up hSw).one
            obtain ⟨y0, y1, y2, y3⟩ := (HT.out.up hSw).two
            simp only [] at x0 x1 x2 x3 y0 y1 y2 y3
            go_simp
            (try with_reducible rfl)
          (try simp only [Act.put, List.getElem_toArray, List.getElem_cons_zero, List.getElem_cons_succ, List.setIfInBounds_toArray, List.set_cons_zero, List.set_cons_succ])
          refine wpAnyH_ready (rs := [25]) (by decide +kernel) (by simp) ?_
          refine AllReadyH.cons rfl (fun K hK => ?_) AllReadyH.nil
          go_simp
          refine (HSa.out _ (HT.out.up hcur).pa).mono ?_
          rintro e wn ⟨rfl, hbn⟩
          go_wp2_with fail
          refine hK.out _ _ (below_of hcur hbn) (fun _ => ?_)
          clear hK K
          replace hcur := below_of hcur hbn
          clear hbn
          (try simp only [Act.put, List.getElem_toArray, List.getElem_cons_zero, List.getElem_cons_succ, List.setIfInBounds_toArray, List.set_cons_zero, List.set_cons_succ])
          refine wpAnyH_take (i := 26) (v := ?_) rfl (by decide +kernel) (by decide +kernel) (by decide +kernel) (fun _ _ _ h => h) (Or.inl ⟨by rfl, ?hy⟩) hcur ?_
          case hy =>
            intro w1 hSw
            replace hSw : Below W.heap.size W w1 := hSw
            obtain ⟨x0, x1, x2, x3⟩ := (HT.out.up hSw).one
            obtain ⟨y0, y1, y2, y3⟩ := (HT.out.up hSw).two
            simp only [] at x0 x1 x2 x3 y0 y1 y2 y3
            go_simp
            (try with_reducible rfl)
          (try simp only [Act.put, List.getElem_toArray, List.getElem_cons_zero, List.getElem_cons_succ, List.setIfInBounds_toArray, List.set_cons_zero, List.set_cons_succ])
          refine wpAnyH_take (i := 27) (v := ?_) rfl (by decide +kernel) (by decide +kernel) (by decide +kernel) (fun _ _ _ h => h) (Or.inl ⟨by rfl, ?hy⟩) hcur ?_
          case hy =>
            intro w1 hSw
            replace hSw : Below W.heap.size W w1 := hSw
            obtain ⟨x0, x1, x2, x3⟩ := (HT.out.up hSw).one
            obtain ⟨y0, y1, y2, y3⟩ := (HT.out.up hSw).two
            simp only [] at x0 x1 x2 x3 y0 y1 y2 y3
            go_simp
            (try with_reducible rfl)
          (try simp only [Act.put, List.getElem_toArray, List.getElem_cons_zero, List.getElem_cons_succ, List.setIfInBounds_toArray, List.set_cons_zero, List.set_cons_succ])
          refine wpAnyH_take (i := 28) (v := ?_) rfl (by decide +kernel) (by decide +kernel) (by decide +kernel) (fun _ _ _ h => h) (Or.inl ⟨by rfl, ?hy⟩) hcur ?_
          case hy =>
            intro w1 hSw
            replace hSw : Below W.heap.size W w1 := hSw
            obtain ⟨x0, x1, x2, x3⟩ := (HT.out.up hSw).one
            obtain ⟨y0, y1, y2, y3⟩ := (HT.out.up hSw).two
            simp only [] at x0 x1 x2 x3 y0 y1 y2 y3
            go_simp
            (try with_reducible rfl)
          (try simp only [Act.put, List.getElem_toArray, List.getElem_cons_zero, List.getElem_cons_succ, List.setIfInBounds_toArray, List.set_cons_zero, List.set_cons_succ])
          refine wpAnyH_take (i := 29) (v := ?_) rfl (by decide +kernel) (by decide +kernel) (by decide +kernel) (fun _ _ _ h => h) (Or.inl ⟨by rfl, ?hy⟩) hcur ?_
          case hy =>
            intro w1 hSw
            replace hSw : Below W.heap.size W w1 := hSw
            obtain ⟨x0, x1, x2, x3⟩ := (HT.out.up hSw).one
            obtain ⟨y0, y1, y2, y3⟩ := (HT.out.up hSw).two
            simp only [] at x0 x1 x2 x3 y0 y1 y2 y3
            go_simp
            (try with_reducible rfl)
          (try simp only [Act.put, List.getElem_toArray, List.getElem_cons_zero, List.getElem_cons_succ, List.setIfInBounds_toArray, List.set_cons_zero, List.set_cons_succ])
          refine wpAnyH_take (i := 31) (v := ?_) rfl (by decide +kernel) (by decide +kernel) (by decide +kernel) (fun _ _ _ h => h) (Or.inl ⟨by rfl, ?hy⟩) hcur ?_
          case hy =>
            intro w1 hSw
            replace hSw : Below W.heap.size W w1 := hSw
            obtain ⟨x0, x1, x2, x3⟩ := (HT.out.up hSw).one
            obtain ⟨y0, y1, y2, y3⟩ := (HT.out.up hSw).two
            simp only [] at x0 x1 x2 x3 y0 y1 y2 y3
            go_simp
            (try with_reducible rfl)
          (try simp only [Act.put, List.getElem_toArray, List.getElem_cons_zero, List.getElem_cons_succ, List.setIfInBounds_toArray, List.set_cons_zero, List.set_cons_succ])
          refine wpAnyH_take (i := 32) (v := ?_) rfl (by decide +kernel) (by decide +kernel) (by decide +kernel) (fun _ _ _ h => h) (Or.inl ⟨by rfl, ?hy⟩) hcur ?_
          case hy =>
            intro w1 hSw
            replace hSw : Below W.heap.size W w1 := hSw
            obtain ⟨x0, x1, x2, x3⟩ := (HT.out.up hSw).one
            obtain ⟨y0, y1, y2, y3⟩ := (HT.out.up hSw).two
            simp only [] at x0 x1 x2 x3 y0 y1 y2 y3
            go_simp
            (try with_reducible rfl)
          (try simp only [Act.put, List.getElem_toArray, List.getElem_cons_zero, List.getElem_cons_succ, List.setIfInBounds_toArray, List.set_cons_zero, List.set_cons_succ])
          refine wpAnyH_ready (rs := [30]) (by decide +kernel) (by simp) ?_
          refine AllReadyH.cons rfl (fun K hK => ?_) AllReadyH.nil
          go_simp
          refine (ansname_any _ _).mono ?_
          rintro e wn ⟨rfl, hbn⟩
          go_wp2_with fail
          refine hK.out _ _ (below_of hcur hbn) (fun _ => ?_)
          clear hK K
          replace hcur := below_of hcur hbn
          clear hbn
          (try simp only [Act.put, List.getElem_toArray, List.getElem_cons_zero, List.getElem_cons_succ, List.setIfInBounds_toArray, List.set_cons_zero, List.set_cons_succ])
          refine wpAnyH_ready (rs := [33]) (by decide +kernel) (by simp) ?_
          refine AllReadyH.cons rfl (fun K hK => ?_) AllReadyH.nil
          go_simp
          refine (refname17_any _ _).mono ?_
          rintro e wn ⟨rfl, hbn⟩
          go_wp2_with fail
          refine hK.out _ _ (below_of hcur hbn) (fun _ => ?_)
          clear hK K
          replace hcur := below_of hcur hbn
          clear hbn
          (try simp only [Act.put, List.getElem_toArray, List.getElem_cons_zero, List.getElem_cons_succ, List.setIfInBounds_toArray, List.set_cons_zero, List.set_cons_succ])
          refine wpAnyH_take (i := 34) (v := ?_) rfl (by decide +kernel) (by decide +kernel) (by decide +kernel) (fun _ _ _ h => h) (Or.inl ⟨by rfl, ?hy⟩) hcur ?_
          case hy =>
            intro w1 hSw
            replace hSw : Below W.heap.size W w1 := hSw
            obtain ⟨x0, x1, x2, x3⟩ := (HT.out.up hSw).one
            obtain ⟨y0, y1, y2, y3⟩ := (HT.out.up hSw).two
            simp only [] at x0 x1 x2 x3 y0 y1 y2 y3
            go_simp
            (try with_reducible rfl)
          (try simp only [Act.put, List.getElem_toArray, List.getElem_cons_zero, List.getElem_cons_succ, List.setIfInBounds_toArray, List.set_cons_zero, List.set_cons_succ])
          refine wpAnyH_take (i := 35) (v := ?_) rfl (by decide +kernel) (by decide +kernel) (by decide +kernel) (fun _ _ _ h => h) (Or.inl ⟨by rfl, ?hy⟩) hcur ?_
          case hy =>
            intro w1 hSw
            replace hSw : Below W.heap.size W w1 := hSw
            obtain ⟨x0, x1, x2, x3⟩ := (HT.out.up hSw).one
            obtain ⟨y0, y1, y2, y3⟩ := (HT.out.up hSw).two
            simp only [] at x0 x1 x2 x3 y0 y1 y2 y3
            go_simp
            (try with_reducible rfl)
          (try simp only [Act.put, List.getElem_toArray, List.getElem_cons_zero, List.getElem_cons_succ, List.setIfInBounds_toArray, List.set_cons_zero, List.set_cons_succ])
          refine wpAnyH_take (i := 36) (v := ?_) rfl (by decide +kernel) (by decide +kernel) (by decide +kernel) (fun _ _ _ h => h) (Or.inl ⟨by rfl, ?hy⟩) hcur ?_
          case hy =>
            intro w1 hSw
            replace hSw : Below W.heap.size W w1 := hSw
            obtain ⟨x0, x1, x2, x3⟩ := (HT.out.up hSw).one
            obtain ⟨y0, y1, y2, y3⟩ := (HT.out.up hSw).two
            simp only [] at x0 x1 x2 x3 y0 y1 y2 y3
            go_simp
            (try with_reducible rfl)
          (try simp only [Act.put, List.getElem_toArray, List.getElem_cons_zero, List.getElem_cons_succ, List.setIfInBounds_toArray, List.set_cons_zero, List.set_cons_succ])
          refine wpAnyH_ready (rs := [37]) (by decide +kernel) (by simp) ?_
          refine AllReadyH.cons rfl (fun K hK => ?_) AllReadyH.nil
          go_simp
          refine (lives17_any _).mono ?_
          rintro e wn ⟨rfl, hbn⟩
          go_wp2_with fail
          refine hK.out _ _ (below_of hcur hbn) (fun _ => ?_)
          clear hK K
          replace hcur := below_of hcur hbn
          clear hbn
          (try simp only [Act.put, List.getElem_toArray, List.getElem_cons_zero, List.getElem_cons_succ, List.setIfInBounds_toArray, List.set_cons_zero, List.set_cons_succ])
          refine wpAnyH_take (i := 38) (v := ?_) rfl (by decide +kernel) (by decide +kernel) (by decide +kernel) (fun _ _ _ h => h) (Or.inl ⟨by rfl, ?hy⟩) hcur ?_
          case hy =>
            intro w1 hSw
            replace hSw : Below W.heap.size W w1 := hSw
            obtain ⟨x0, x1, x2, x3⟩ := (HT.out.up hSw).one
            obtain ⟨y0, y1, y2, y3⟩ := (HT.out.up hSw).two
            simp only [] at x0 x1 x2 x3 y0 y1 y2 y3
            go_simp
            (try with_reducible rfl)
          (try simp only [Act.put, List.getElem_toArray, List.getElem_cons_zero, List.getElem_cons_succ, List.setIfInBounds_toArray, List.set_cons_zero, List.set_cons_succ])
          refine wpAnyH_take (i := 39) (v := ?_) rfl (by decide +kernel) (by decide +kernel) (by decide +kernel) (fun _ _ _ h => h) (Or.inl ⟨by rfl, ?hy⟩) hcur ?_
          case hy =>
            intro w1 hSw
            replace hSw : Below W.heap.size W w1 := hSw
            obtain ⟨x0, x1, x2, x3⟩ := (HT.out.up hSw).one
            obtain ⟨y0, y1, y2, y3⟩ := (HT.out.up hSw).two
            simp only [] at x0 x1 x2 x3 y0 y1 y2 y3
            go_simp
            (try with_reducible rfl)
          (try simp only [Act.put, List.getElem_toArray, List.getElem_cons_zero, List.getElem_cons_succ, List.setIfInBounds_toArray, List.set_cons_zero, List.set_cons_succ])
          refine wpAnyH_done (by decide +kernel) ?_ _
          go_wp2_with fail
          go_ret
          exact ⟨rfl, below_of HT.out.bel hcur⟩

theorem answertells_row (a : AnsD) (A : Option Addr) (c : Nat) (b : AnsD) (B : Option Addr) (d : Nat) (ok : Bool) (w : World) (h : Prs w A a.pairs.length a.pairs) (ha : AnsOk a) (k : Prs w B b.pairs.length b.pairs) (hb : AnsOk b) :
    Calls Try.prog 3 #[.agg (ansCells a A c), .agg (ansCells b B d), .bool ok] w (Ret (.bool true) w) := answertells_any a b A B c d ok w h k ha hb

end Go.Proofs.Ythbafbgnclpbpaa
