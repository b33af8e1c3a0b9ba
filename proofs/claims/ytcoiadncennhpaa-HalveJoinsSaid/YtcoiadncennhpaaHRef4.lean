/- The reference of layer 13: Both, Merge, Even. -/
import Derived.Test.YtcoiadncennhpaaHRef3
namespace Go.Proofs.Ytcoiadncennhpaa
open Go.RowKit

/-- An append onto a row of the call's own, whatever the source's address, and where the new row lies. -/
theorem run_append_at {P : Program} {w : World} (base : Nat) (t ty e : TypeId) (z : Value) (bytes : Nat) (ht : P.underlying t = some (.slice e)) (hinfo : (P.info? e).map (fun i => (i.zero, i.size, i.bytes)) = some (some z, 1, bytes)) (hzs : z.cells.size = 1)
    (v : Value) (n : Nat) (xs : List Value) (hown : w.ownsRow base e 1 v n xs) (A : Option Addr) (m c : Nat) (news : List Value) (hr : Rd w w.heap.size 1 A m news) (h1 : ∀ u ∈ news, u.oneCell' = true)
    (h63 : n + m ≤ maxLen) (hbytes : (n + m) * bytes ≤ 140737488355328) (hbase : base ≤ w.heap.size) :
    ∃ v' w', (Builtin.append_ #[t, t] ty #[v, .slice A m c]).run P w = .ok v' w' ∧ w'.ownsRow base e 1 v' (n + m) (xs ++ news) ∧ w.grownBy w' v.ownBlock ∧ (v'.ownBlock = v.ownBlock ∨ v'.ownBlock = some w.heap.size) := by
  obtain ⟨i, hi, hz, hs, hb⟩ := info_parts hinfo
  have hnl := hr.len1
  rcases A with _ | ad
  · have hm : m = 0 := by
      rcases Nat.eq_zero_or_pos m with h0 | h0
      · exact h0
      · obtain ⟨_, _, h, _⟩ := hr.2 h0; cases h
    subst hm
    have hn : news = [] := List.eq_nil_of_length_eq_zero hnl
    subst hn
    refine ⟨v, w, ?_, by simpa using hown, World.grownBy.refl w _, .inl rfl⟩
    rcases hown.2 with ⟨rfl, rfl⟩ | ⟨g, cap, cur, rfl, _, _, hnc, _⟩
    · simp [Builtin.append_, run_underlying ht, sizeOf, typeInfo, hi, Builtin.lenOf, Builtin.firstCells]
    · simp [Builtin.append_, run_underlying ht, sizeOf, typeInfo, hi, Builtin.lenOf, Builtin.firstCells, hnc, storeCells]
  · have hcells : ∀ (j : Nat) (u : Value), news[j]? = some u → w.cell? (ad.add j) = some u := by
      intro j u hu
      by_cases h0 : 0 < news.length
      · obtain ⟨ad', h, hc⟩ := hr.src h0
        injection h with h; subst h; exact hc j u hu
      · have hn : news = [] := List.eq_nil_of_length_eq_zero (by omega)
        subst hn; simp at hu
    obtain ⟨v', w', hrun, h2, h3, _, h5⟩ := run_append_own_at (P := P) w base t ty e i z 1 bytes ht hi hz hs hb hzs (by omega) v n xs hown ad m c news (by omega) hcells h1 h63 hbytes hbase
    exact ⟨v', w', hrun, h2, h3, h5⟩

/-- An append of a row to an own row. -/
theorem Ow.join {P : Program} {B : Nat} {W0 W : World} {L : List (Nat × Obj)} {R : List RowT} (h : Ow B W0 W L R) (i : Nat) {t : TypeId} {n : Nat} {v : Value} {xs : List Value} (hi : R[i]? = some ⟨t, 1, v, n, xs⟩)
    (sl ty : TypeId) (z : Value) (bytes : Nat) (hu : P.underlying sl = some (.slice t)) (hinfo : (P.info? t).map (fun i => (i.zero, i.size, i.bytes)) = some (some z, 1, bytes)) (hzs : z.cells.size = 1)
    (A : Option Addr) (m c : Nat) (ys : List Value) (hr : Rd W W.heap.size 1 A m ys) (h1 : ∀ u ∈ ys, u.oneCell' = true) (hl : n + m ≤ 100000) (hby : bytes ≤ 100) :
    ∃ A' c' W1, (Builtin.append_ #[sl, sl] ty #[v, .slice A m c]).run P W = .ok (.slice A' (n + m) c') W1 ∧ n + m ≤ c' ∧
      Ow B W0 W1 L (R.set i ⟨t, 1, .slice A' (n + m) c', n + m, xs ++ ys⟩) := by
  have hil : i < R.length := (List.getElem?_eq_some_iff.1 hi).1
  have hmul : (n + m) * bytes ≤ 100000 * 100 := Nat.mul_le_mul hl hby
  obtain ⟨v', W1, hrun, ho, hg, hor⟩ := run_append_at (P := P) (w := W) B sl ty t z bytes hu hinfo hzs v n xs (h.own i _ hi) A m c ys hr h1 (by unfold maxLen; omega) (by omega) h.sx.le
  obtain ⟨A', c', rfl, hc⟩ := owns_slice ho
  have hO := Off.of_grown hg
  have hnew : ∀ k, (Value.slice A' (n + m) c').ownBlock = some k → v.ownBlock = some k ∨ W.heap.size ≤ k := by
    intro k hk
    rcases hor with e | e
    · exact .inl (by rw [← e]; exact hk)
    · rw [e] at hk
      injection hk with hk
      exact .inr (by omega)
  have key : ∀ (j : Nat) (r : RowT), (R.set i ⟨t, 1, .slice A' (n + m) c', n + m, xs ++ ys⟩)[j]? = some r → (i = j ∧ r = ⟨t, 1, .slice A' (n + m) c', n + m, xs ++ ys⟩) ∨ (i ≠ j ∧ R[j]? = some r) := by
    intro j r hj
    by_cases e : i = j
    · subst e
      rw [List.getElem?_set_self hil] at hj
      injection hj with hj
      exact .inl ⟨rfl, hj.symm⟩
    · rw [List.getElem?_set_ne e] at hj
      exact .inr ⟨e, hj⟩
  refine ⟨A', c', W1, hrun, hc, ⟨⟨?_, ?_, fun m' g o hm => ?_, h.sx.ne⟩, fun j r hj => ?_, fun j m' k r r' hjm hj hm hk hk' => ?_, fun j m' k r p hj hk hm => ?_⟩⟩
  · exact hO.below h.sx.below h.sx.le (fun q hq e => by have := (own_lt (h.own i _ hi) e.symm).1; omega)
  · exact Nat.le_trans h.sx.le hO.size
  · have h3 := h.sx.has m' g o hm
    exact ⟨(hO.block g (h.sx.lt hm) (fun e => h.nl i m' g _ _ hi e.symm hm rfl)).trans h3.1, h3.2⟩
  · rcases key j r hj with ⟨_, rfl⟩ | ⟨e, hj⟩
    · exact ho
    · exact own_off (h.own j r hj) hO (fun k hk e2 => h.ne j i k r _ (fun e3 => e e3.symm) hj hi hk e2.symm)
  · rcases key j r hj with ⟨e0, rfl⟩ | ⟨e, hj⟩ <;> rcases key m' r' hm with ⟨e0', rfl⟩ | ⟨e', hm⟩
    · omega
    · rcases hnew k hk with g | g
      · exact h.ne i m' k _ r' e' hi hm g hk'
      · have := (own_lt (h.own m' r' hm) hk').2
        omega
    · rcases hnew k hk' with g | g
      · exact h.ne j i k r _ (fun e3 => e e3.symm) hj hi hk g
      · have := (own_lt (h.own j r hj) hk).2
        omega
    · exact h.ne j m' k r r' hjm hj hm hk hk'
  · rcases key j r hj with ⟨_, rfl⟩ | ⟨_, hj⟩
    · rcases hnew k hk with g | g
      · exact h.nl i m' k _ p hi g hm
      · have := h.sx.lt (i := m') (g := p.1) (o := p.2) hm
        omega
    · exact h.nl j m' k r p hj hk hm

theorem strs_app (a b : List ByteArray) : strs (a ++ b) = strs a ++ strs b := List.map_append
theorem u64s_app (a b : List Int) : u64s (a ++ b) = u64s a ++ u64s b := List.map_append
theorem i64s_app (a b : List Int) : i64s (a ++ b) = i64s a ++ i64s b := List.map_append

set_option maxRecDepth 100000 in
set_option maxHeartbeats 16000000 in
theorem refboth_any (a b : Nd) (A B C A' B' C' : Option Addr) (ca cb cc ca' cb' cc' : Nat) (w : World) (h : Lies w a A B C ca cb cc) (k : Lies w b A' B' C' ca' cb' cc')
    (la : a.keys.length ≤ 1000 ∧ a.vals.length ≤ 1000 ∧ a.kids.length ≤ 1000) (lb : b.keys.length ≤ 1000 ∧ b.vals.length ≤ 1000 ∧ b.kids.length ≤ 1000) :
    Calls Try.prog 104 #[.agg (ndCells a A B C ca cb cc), .agg (ndCells b A' B' C' ca' cb' cc')] w (NOneF (bothN a b) w) := by
  have hS := Lib.hid (Sx.start3b w (.cells (ndCells a A B C ca cb cc) 26) (.cells (ndCells b A' B' C' ca' cb' cc') 26) (.cells #[.int .i64 0, .string ⟨#[]⟩, .string ⟨#[]⟩, .bool false, .int .i64 0, .slice none 0 0, .slice none 0 0, .slice none 0 0] 26))
  have HA := Lib.hid h
  have HB := Lib.hid k
  have hbn : bothN a b = ⟨a.level, a.low, b.high, b.last, b.next, a.keys ++ b.keys, a.vals ++ b.vals, a.kids ++ b.kids⟩ := rfl
  clear h k
  generalize bothN a b = o at hbn ⊢
  have HLN := Lib.hid (And.intro la lb)
  have HON := Lib.hid hbn
  clear hbn la lb
  obtain ⟨level, nlow, high, last, next, keys, vals, kids⟩ := a
  obtain ⟨level', nlow', high', last', next', keys', vals', kids'⟩ := b
  simp only [] at HON HLN
  simp only [ndCells] at hS ⊢
  go_enter Try.func104, Try.ntmps104
  go_upto_region 1 with fail
  generalize ((w.alloc _).alloc _).alloc _ = W at hS ⊢
  obtain ⟨x0, x1, x2, x3, x4, x5, x6, x7, f0, f1, f2, f3, f4, f5, f6, f7⟩ := nd_facts (hS.out.has 0 _ _ rfl).1
  go_upto_region 2 with fail
  clear x0 x1 x2 x3 x4 x5 x6 x7 f0 f1 f2 f3 f4 f5 f6 f7
  replace hS := Lib.hid (hS.out.alloc (.cells #[.int .i64 level, .string nlow, .string high, .bool last, .int .i64 next, .slice A keys.length ca, .slice B vals.length cb, .slice C kids.length cc] 26))
  simp only [List.cons_append, List.nil_append, List.set_cons_zero, List.set_cons_succ] at hS
  generalize W.alloc _ = W2 at hS ⊢
  generalize W.heap.size = g3 at hS ⊢
  obtain ⟨x0, x1, x2, x3, x4, x5, x6, x7, f0, f1, f2, f3, f4, f5, f6, f7⟩ := nd_facts (hS.out.has 3 _ _ rfl).1
  obtain ⟨y0, y1, y2, y3, y4, y5, y6, y7, q0, q1, q2, q3, q4, q5, q6, q7⟩ := nd_facts (hS.out.has 1 _ _ rfl).1
  go_upto_region 3 with fail
  clear x0 x1 x2 x3 x4 x5 x6 x7 f0 f1 f2 f3 f4 f5 f6 f7
  clear y0 y1 y2 y3 y4 y5 y6 y7 q0 q1 q2 q3 q4 q5 q6 q7
  replace hS := Lib.hid (hS.out.setc 3 rfl 2 (.string high'))
  simp only [List.cons_append, List.nil_append, List.set_cons_zero, List.set_cons_succ] at hS
  generalize World.setCell _ _ _ = W3 at hS ⊢
  obtain ⟨x0, x1, x2, x3, x4, x5, x6, x7, f0, f1, f2, f3, f4, f5, f6, f7⟩ := nd_facts (hS.out.has 3 _ _ rfl).1
  obtain ⟨y0, y1, y2, y3, y4, y5, y6, y7, q0, q1, q2, q3, q4, q5, q6, q7⟩ := nd_facts (hS.out.has 1 _ _ rfl).1
  go_upto_region 4 with fail
  clear x0 x1 x2 x3 x4 x5 x6 x7 f0 f1 f2 f3 f4 f5 f6 f7
  clear y0 y1 y2 y3 y4 y5 y6 y7 q0 q1 q2 q3 q4 q5 q6 q7
  replace hS := Lib.hid (hS.out.setc 3 rfl 3 (.bool last'))
  simp only [List.cons_append, List.nil_append, List.set_cons_zero, List.set_cons_succ] at hS
  generalize World.setCell _ _ _ = W4 at hS ⊢
  obtain ⟨x0, x1, x2, x3, x4, x5, x6, x7, f0, f1, f2, f3, f4, f5, f6, f7⟩ := nd_facts (hS.out.has 3 _ _ rfl).1
  obtain ⟨y0, y1, y2, y3, y4, y5, y6, y7, q0, q1, q2, q3, q4, q5, q6, q7⟩ := nd_facts (hS.out.has 1 _ _ rfl).1
  go_upto_region 5 with fail
  clear x0 x1 x2 x3 x4 x5 x6 x7 f0 f1 f2 f3 f4 f5 f6 f7
  clear y0 y1 y2 y3 y4 y5 y6 y7 q0 q1 q2 q3 q4 q5 q6 q7
  replace hS := Lib.hid (hS.out.setc 3 rfl 4 (.int .i64 next'))
  simp only [List.cons_append, List.nil_append, List.set_cons_zero, List.set_cons_succ] at hS
  generalize World.setCell _ _ _ = W5 at hS ⊢
  have HO := Lib.hid (Ow.start hS.out)
  clear hS
  refine wp_region_held_drew (S := fun w' => Sx w.heap.size w w' [(w.heap.size, .cells #[.int .i64 level, .string nlow, .string high, .bool last, .int .i64 next, .slice A keys.length ca, .slice B vals.length cb, .slice C kids.length cc] 26), (w.heap.size + 1, .cells #[.int .i64 level', .string nlow', .string high', .bool last', .int .i64 next', .slice A' keys'.length ca', .slice B' vals'.length cb', .slice C' kids'.length cc'] 26)]) (by kernel_rfl) (HO.out.drew.sx.top 2) (fun hcur => ?_)
  (try dsimp only at hcur)
  replace HO := Lib.hid HO.out.drew
  generalize World.drew _ = X at HO hcur ⊢
  refine wpAnyH_take (i := 1) (v := ?_) rfl (by decide +kernel) (by decide +kernel) (by decide +kernel) (fun _ _ _ h => h) (Or.inl ⟨by rfl, ?hy⟩) hcur ?_
  case hy =>
    intro w1 hSw
    (try dsimp only at hSw)
    obtain ⟨x0, x1, x2, x3, x4, x5, x6, x7, -, -, -, -, -, -, -, -⟩ := nd_facts (hSw.has 0 _ _ rfl).1
    obtain ⟨y0, y1, y2, y3, y4, y5, y6, y7, -, -, -, -, -, -, -, -⟩ := nd_facts (hSw.has 1 _ _ rfl).1
    go_simp
    (try with_reducible rfl)
  (try simp only [Act.put, List.getElem_toArray, List.getElem_cons_zero, List.getElem_cons_succ, List.setIfInBounds_toArray, List.set_cons_zero, List.set_cons_succ])
  refine wpAnyH_take (i := 2) (v := ?_) rfl (by decide +kernel) (by decide +kernel) (by decide +kernel) (fun _ _ _ h => h) (Or.inl ⟨by rfl, ?hy⟩) hcur ?_
  case hy =>
    intro w1 hSw
    (try dsimp only at hSw)
    obtain ⟨x0, x1, x2, x3, x4, x5, x6, x7, -, -, -, -, -, -, -, -⟩ := nd_facts (hSw.has 0 _ _ rfl).1
    obtain ⟨y0, y1, y2, y3, y4, y5, y6, y7, -, -, -, -, -, -, -, -⟩ := nd_facts (hSw.has 1 _ _ rfl).1
    go_simp
    (try with_reducible rfl)
  (try simp only [Act.put, List.getElem_toArray, List.getElem_cons_zero, List.getElem_cons_succ, List.setIfInBounds_toArray, List.set_cons_zero, List.set_cons_succ])
  refine wpAnyH_take (i := 4) (v := ?_) rfl (by decide +kernel) (by decide +kernel) (by decide +kernel) (fun _ _ _ h => h) (Or.inl ⟨by rfl, ?hy⟩) hcur ?_
  case hy =>
    intro w1 hSw
    (try dsimp only at hSw)
    obtain ⟨x0, x1, x2, x3, x4, x5, x6, x7, -, -, -, -, -, -, -, -⟩ := nd_facts (hSw.has 0 _ _ rfl).1
    obtain ⟨y0, y1, y2, y3, y4, y5, y6, y7, -, -, -, -, -, -, -, -⟩ := nd_facts (hSw.has 1 _ _ rfl).1
    go_simp
    (try with_reducible rfl)
  (try simp only [Act.put, List.getElem_toArray, List.getElem_cons_zero, List.getElem_cons_succ, List.setIfInBounds_toArray, List.set_cons_zero, List.set_cons_succ])
  refine wpAnyH_take (i := 5) (v := ?_) rfl (by decide +kernel) (by decide +kernel) (by decide +kernel) (fun _ _ _ h => h) (Or.inl ⟨by rfl, ?hy⟩) hcur ?_
  case hy =>
    intro w1 hSw
    (try dsimp only at hSw)
    obtain ⟨x0, x1, x2, x3, x4, x5, x6, x7, -, -, -, -, -, -, -, -⟩ := nd_facts (hSw.has 0 _ _ rfl).1
    obtain ⟨y0, y1, y2, y3, y4, y5, y6, y7, -, -, -, -, -, -, -, -⟩ := nd_facts (hSw.has 1 _ _ rfl).1
    go_simp
    (try with_reducible rfl)
  (try simp only [Act.put, List.getElem_toArray, List.getElem_cons_zero, List.getElem_cons_succ, List.setIfInBounds_toArray, List.set_cons_zero, List.set_cons_succ])
  obtain ⟨A5, c5, X5, hrun, hown, hbw, hc5⟩ := run_clone (P := Try.prog) (w := X) 22 22 9 (.string ByteArray.empty) 16 (by kernel_rfl) joinS_info rfl (by omega) A keys.length ca (strs keys) (HA.out.up HO.out.below).keys (strs_one _) (by have := HLN.out; omega)
  have HO5 := Lib.hid (HO.out.row hbw hown)
  simp only [List.nil_append, List.cons_append] at HO5
  obtain ⟨P0_, pc0_, X6, hrun6, hc6, HO6⟩ := HO5.out.join (P := Try.prog) 0 rfl 22 22 (.string ByteArray.empty) 16 (by kernel_rfl) joinS_info rfl A' keys'.length ca' (strs keys') (HB.out.up HO5.out.below).keys (strs_one _) (by have := HLN.out; omega) (by omega)
  simp only [List.set_cons_zero, List.set_cons_succ] at HO6
  replace HO6 := Lib.hid HO6
  refine wpAnyH_ready (rs := [0]) (by decide +kernel) (by simp) ?_
  refine AllReadyH.cons rfl (fun K hK => ?_) AllReadyH.nil
  go_simp
  refine hK.out _ _ ((HO.out.call (below_alloc X _)).sx.top 2) (fun hcur2 => ?_)
  clear hK K
  replace hcur := hcur2
  (try dsimp only at hcur)
  clear hcur2
  (try simp only [Act.put, List.getElem_toArray, List.getElem_cons_zero, List.getElem_cons_succ, List.setIfInBounds_toArray, List.set_cons_zero, List.set_cons_succ])
  refine wpAnyH_ready (rs := [3]) (by decide +kernel) (by simp) ?_
  refine AllReadyH.cons rfl (fun K hK => ?_) AllReadyH.nil
  (try rw [if_pos (by rfl)])
  refine oper_append_run (.tmp 16) (.tmp 18) 22 rfl rfl rfl hrun ?_
  refine hK.out _ _ (HO5.out.sx.top 2) (fun hcur2 => ?_)
  clear hK K
  replace hcur := hcur2
  (try dsimp only at hcur)
  clear hcur2
  (try simp only [Act.put, List.getElem_toArray, List.getElem_cons_zero, List.getElem_cons_succ, List.setIfInBounds_toArray, List.set_cons_zero, List.set_cons_succ])
  refine wpAnyH_ready (rs := [6]) (by decide +kernel) (by simp) ?_
  refine AllReadyH.cons rfl (fun K hK => ?_) AllReadyH.nil
  (try rw [if_pos (by rfl)])
  refine oper_append_run (.tmp 19) (.tmp 21) 22 rfl rfl rfl hrun6 ?_
  refine hK.out _ _ (HO6.out.sx.top 2) (fun hcur2 => ?_)
  clear hK K
  replace hcur := hcur2
  (try dsimp only at hcur)
  clear hcur2
  (try simp only [Act.put, List.getElem_toArray, List.getElem_cons_zero, List.getElem_cons_succ, List.setIfInBounds_toArray, List.set_cons_zero, List.set_cons_succ])
  clear HO HO5 hrun hrun6 hown hbw
  have HO := HO6
  clear HO6
  refine wpAnyH_take (i := 7) (v := ?_) rfl (by decide +kernel) (by decide +kernel) (by decide +kernel) (fun _ _ _ h => h) (Or.inl ⟨by rfl, ?hy⟩) hcur ?_
  case hy =>
    intro w1 hSw
    (try dsimp only at hSw)
    obtain ⟨x0, x1, x2, x3, x4, x5, x6, x7, -, -, -, -, -, -, -, -⟩ := nd_facts (hSw.has 0 _ _ rfl).1
    obtain ⟨y0, y1, y2, y3, y4, y5, y6, y7, -, -, -, -, -, -, -, -⟩ := nd_facts (hSw.has 1 _ _ rfl).1
    go_simp
    (try with_reducible rfl)
  (try simp only [Act.put, List.getElem_toArray, List.getElem_cons_zero, List.getElem_cons_succ, List.setIfInBounds_toArray, List.set_cons_zero, List.set_cons_succ])
  refine wpAnyH_ready (rs := [8]) (by decide +kernel) (by simp) ?_
  refine AllReadyH.cons rfl (fun K hK => ?_) AllReadyH.nil
  obtain ⟨x0, x1, x2, x3, x4, x5, x6, x7, f0, f1, f2, f3, f4, f5, f6, f7⟩ := nd_facts (HO.out.sx.has 3 _ _ rfl).1
  go_simp
  clear x0 x1 x2 x3 x4 x5 x6 x7 f0 f1 f2 f3 f4 f5 f6 f7
  have hO := HO.out.setc 3 rfl 5 (.slice P0_ (keys.length + keys'.length) pc0_)
  simp only [List.set_cons_zero, List.set_cons_succ] at hO
  refine hK.out _ _ (hO.sx.top 2) (fun hcur2 => ?_)
  clear hK K
  replace hcur := hcur2
  (try dsimp only at hcur)
  clear hcur2
  (try simp only [Act.put, List.getElem_toArray, List.getElem_cons_zero, List.getElem_cons_succ, List.setIfInBounds_toArray, List.set_cons_zero, List.set_cons_succ])
  generalize World.setCell _ _ _ = X9 at hO hcur ⊢
  replace HO := Lib.hid hO
  clear hO hcur
  refine wpAnyH_done (by decide +kernel) ?_ _
  go_upto_region 6 with fail
  refine wp_region_held_drew (S := fun w' => Sx w.heap.size w w' [(w.heap.size, .cells #[.int .i64 level, .string nlow, .string high, .bool last, .int .i64 next, .slice A keys.length ca, .slice B vals.length cb, .slice C kids.length cc] 26), (w.heap.size + 1, .cells #[.int .i64 level', .string nlow', .string high', .bool last', .int .i64 next', .slice A' keys'.length ca', .slice B' vals'.length cb', .slice C' kids'.length cc'] 26)]) (by kernel_rfl) (HO.out.drew.sx.top 2) (fun hcur => ?_)
  (try dsimp only at hcur)
  replace HO := Lib.hid HO.out.drew
  generalize World.drew _ = X at HO hcur ⊢
  refine wpAnyH_take (i := 1) (v := ?_) rfl (by decide +kernel) (by decide +kernel) (by decide +kernel) (fun _ _ _ h => h) (Or.inl ⟨by rfl, ?hy⟩) hcur ?_
  case hy =>
    intro w1 hSw
    (try dsimp only at hSw)
    obtain ⟨x0, x1, x2, x3, x4, x5, x6, x7, -, -, -, -, -, -, -, -⟩ := nd_facts (hSw.has 0 _ _ rfl).1
    obtain ⟨y0, y1, y2, y3, y4, y5, y6, y7, -, -, -, -, -, -, -, -⟩ := nd_facts (hSw.has 1 _ _ rfl).1
    go_simp
    (try with_reducible rfl)
  (try simp only [Act.put, List.getElem_toArray, List.getElem_cons_zero, List.getElem_cons_succ, List.setIfInBounds_toArray, List.set_cons_zero, List.set_cons_succ])
  refine wpAnyH_take (i := 2) (v := ?_) rfl (by decide +kernel) (by decide +kernel) (by decide +kernel) (fun _ _ _ h => h) (Or.inl ⟨by rfl, ?hy⟩) hcur ?_
  case hy =>
    intro w1 hSw
    (try dsimp only at hSw)
    obtain ⟨x0, x1, x2, x3, x4, x5, x6, x7, -, -, -, -, -, -, -, -⟩ := nd_facts (hSw.has 0 _ _ rfl).1
    obtain ⟨y0, y1, y2, y3, y4, y5, y6, y7, -, -, -, -, -, -, -, -⟩ := nd_facts (hSw.has 1 _ _ rfl).1
    go_simp
    (try with_reducible rfl)
  (try simp only [Act.put, List.getElem_toArray, List.getElem_cons_zero, List.getElem_cons_succ, List.setIfInBounds_toArray, List.set_cons_zero, List.set_cons_succ])
  refine wpAnyH_take (i := 4) (v := ?_) rfl (by decide +kernel) (by decide +kernel) (by decide +kernel) (fun _ _ _ h => h) (Or.inl ⟨by rfl, ?hy⟩) hcur ?_
  case hy =>
    intro w1 hSw
    (try dsimp only at hSw)
    obtain ⟨x0, x1, x2, x3, x4, x5, x6, x7, -, -, -, -, -, -, -, -⟩ := nd_facts (hSw.has 0 _ _ rfl).1
    obtain ⟨y0, y1, y2, y3, y4, y5, y6, y7, -, -, -, -, -, -, -, -⟩ := nd_facts (hSw.has 1 _ _ rfl).1
    go_simp
    (try with_reducible rfl)
  (try simp only [Act.put, List.getElem_toArray, List.getElem_cons_zero, List.getElem_cons_succ, List.setIfInBounds_toArray, List.set_cons_zero, List.set_cons_succ])
  refine wpAnyH_take (i := 5) (v := ?_) rfl (by decide +kernel) (by decide +kernel) (by decide +kernel) (fun _ _ _ h => h) (Or.inl ⟨by rfl, ?hy⟩) hcur ?_
  case hy =>
    intro w1 hSw
    (try dsimp only at hSw)
    obtain ⟨x0, x1, x2, x3, x4, x5, x6, x7, -, -, -, -, -, -, -, -⟩ := nd_facts (hSw.has 0 _ _ rfl).1
    obtain ⟨y0, y1, y2, y3, y4, y5, y6, y7, -, -, -, -, -, -, -, -⟩ := nd_facts (hSw.has 1 _ _ rfl).1
    go_simp
    (try with_reducible rfl)
  (try simp only [Act.put, List.getElem_toArray, List.getElem_cons_zero, List.getElem_cons_succ, List.setIfInBounds_toArray, List.set_cons_zero, List.set_cons_succ])
  obtain ⟨A5, c5, X5, hrun, hown, hbw, hc5⟩ := run_clone (P := Try.prog) (w := X) 23 23 35 (.int .u64 0) 8 (by kernel_rfl) joinU_info rfl (by omega) B vals.length cb (u64s vals) (HA.out.up HO.out.below).vals (u64s_one _) (by have := HLN.out; omega)
  have HO5 := Lib.hid (HO.out.row hbw hown)
  simp only [List.nil_append, List.cons_append] at HO5
  obtain ⟨P1_, pc1_, X6, hrun6, hc6, HO6⟩ := HO5.out.join (P := Try.prog) 1 rfl 23 23 (.int .u64 0) 8 (by kernel_rfl) joinU_info rfl B' vals'.length cb' (u64s vals') (HB.out.up HO5.out.below).vals (u64s_one _) (by have := HLN.out; omega) (by omega)
  simp only [List.set_cons_zero, List.set_cons_succ] at HO6
  replace HO6 := Lib.hid HO6
  refine wpAnyH_ready (rs := [0]) (by decide +kernel) (by simp) ?_
  refine AllReadyH.cons rfl (fun K hK => ?_) AllReadyH.nil
  go_simp
  refine hK.out _ _ ((HO.out.call (below_alloc X _)).sx.top 2) (fun hcur2 => ?_)
  clear hK K
  replace hcur := hcur2
  (try dsimp only at hcur)
  clear hcur2
  (try simp only [Act.put, List.getElem_toArray, List.getElem_cons_zero, List.getElem_cons_succ, List.setIfInBounds_toArray, List.set_cons_zero, List.set_cons_succ])
  refine wpAnyH_ready (rs := [3]) (by decide +kernel) (by simp) ?_
  refine AllReadyH.cons rfl (fun K hK => ?_) AllReadyH.nil
  (try rw [if_pos (by rfl)])
  refine oper_append_run (.tmp 24) (.tmp 26) 23 rfl rfl rfl hrun ?_
  refine hK.out _ _ (HO5.out.sx.top 2) (fun hcur2 => ?_)
  clear hK K
  replace hcur := hcur2
  (try dsimp only at hcur)
  clear hcur2
  (try simp only [Act.put, List.getElem_toArray, List.getElem_cons_zero, List.getElem_cons_succ, List.setIfInBounds_toArray, List.set_cons_zero, List.set_cons_succ])
  refine wpAnyH_ready (rs := [6]) (by decide +kernel) (by simp) ?_
  refine AllReadyH.cons rfl (fun K hK => ?_) AllReadyH.nil
  (try rw [if_pos (by rfl)])
  refine oper_append_run (.tmp 27) (.tmp 29) 23 rfl rfl rfl hrun6 ?_
  refine hK.out _ _ (HO6.out.sx.top 2) (fun hcur2 => ?_)
  clear hK K
  replace hcur := hcur2
  (try dsimp only at hcur)
  clear hcur2
  (try simp only [Act.put, List.getElem_toArray, List.getElem_cons_zero, List.getElem_cons_succ, List.setIfInBounds_toArray, List.set_cons_zero, List.set_cons_succ])
  clear HO HO5 hrun hrun6 hown hbw
  have HO := HO6
  clear HO6
  refine wpAnyH_take (i := 7) (v := ?_) rfl (by decide +kernel) (by decide +kernel) (by decide +kernel) (fun _ _ _ h => h) (Or.inl ⟨by rfl, ?hy⟩) hcur ?_
  case hy =>
    intro w1 hSw
    (try dsimp only at hSw)
    obtain ⟨x0, x1, x2, x3, x4, x5, x6, x7, -, -, -, -, -, -, -, -⟩ := nd_facts (hSw.has 0 _ _ rfl).1
    obtain ⟨y0, y1, y2, y3, y4, y5, y6, y7, -, -, -, -, -, -, -, -⟩ := nd_facts (hSw.has 1 _ _ rfl).1
    go_simp
    (try with_reducible rfl)
  (try simp only [Act.put, List.getElem_toArray, List.getElem_cons_zero, List.getElem_cons_succ, List.setIfInBounds_toArray, List.set_cons_zero, List.set_cons_succ])
  refine wpAnyH_ready (rs := [8]) (by decide +kernel) (by simp) ?_
  refine AllReadyH.cons rfl (fun K hK => ?_) AllReadyH.nil
  obtain ⟨x0, x1, x2, x3, x4, x5, x6, x7, f0, f1, f2, f3, f4, f5, f6, f7⟩ := nd_facts (HO.out.sx.has 3 _ _ rfl).1
  go_simp
  clear x0 x1 x2 x3 x4 x5 x6 x7 f0 f1 f2 f3 f4 f5 f6 f7
  have hO := HO.out.setc 3 rfl 6 (.slice P1_ (vals.length + vals'.length) pc1_)
  simp only [List.set_cons_zero, List.set_cons_succ] at hO
  refine hK.out _ _ (hO.sx.top 2) (fun hcur2 => ?_)
  clear hK K
  replace hcur := hcur2
  (try dsimp only at hcur)
  clear hcur2
  (try simp only [Act.put, List.getElem_toArray, List.getElem_cons_zero, List.getElem_cons_succ, List.setIfInBounds_toArray, List.set_cons_zero, List.set_cons_succ])
  generalize World.setCell _ _ _ = X9 at hO hcur ⊢
  replace HO := Lib.hid hO
  clear hO hcur
  refine wpAnyH_done (by decide +kernel) ?_ _
  go_upto_region 7 with fail
  refine wp_region_held_drew (S := fun w' => Sx w.heap.size w w' [(w.heap.size, .cells #[.int .i64 level, .string nlow, .string high, .bool last, .int .i64 next, .slice A keys.length ca, .slice B vals.length cb, .slice C kids.length cc] 26), (w.heap.size + 1, .cells #[.int .i64 level', .string nlow', .string high', .bool last', .int .i64 next', .slice A' keys'.length ca', .slice B' vals'.length cb', .slice C' kids'.length cc'] 26)]) (by kernel_rfl) (HO.out.drew.sx.top 2) (fun hcur => ?_)
  (try dsimp only at hcur)
  replace HO := Lib.hid HO.out.drew
  generalize World.drew _ = X at HO hcur ⊢
  refine wpAnyH_take (i := 1) (v := ?_) rfl (by decide +kernel) (by decide +kernel) (by decide +kernel) (fun _ _ _ h => h) (Or.inl ⟨by rfl, ?hy⟩) hcur ?_
  case hy =>
    intro w1 hSw
    (try dsimp only at hSw)
    obtain ⟨x0, x1, x2, x3, x4, x5, x6, x7, -, -, -, -, -, -, -, -⟩ := nd_facts (hSw.has 0 _ _ rfl).1
    obtain ⟨y0, y1, y2, y3, y4, y5, y6, y7, -, -, -, -, -, -, -, -⟩ := nd_facts (hSw.has 1 _ _ rfl).1
    go_simp
    (try with_reducible rfl)
  (try simp only [Act.put, List.getElem_toArray, List.getElem_cons_zero, List.getElem_cons_succ, List.setIfInBounds_toArray, List.set_cons_zero, List.set_cons_succ])
  refine wpAnyH_take (i := 2) (v := ?_) rfl (by decide +kernel) (by decide +kernel) (by decide +kernel) (fun _ _ _ h => h) (Or.inl ⟨by rfl, ?hy⟩) hcur ?_
  case hy =>
    intro w1 hSw
    (try dsimp only at hSw)
    obtain ⟨x0, x1, x2, x3, x4, x5, x6, x7, -, -, -, -, -, -, -, -⟩ := nd_facts (hSw.has 0 _ _ rfl).1
    obtain ⟨y0, y1, y2, y3, y4, y5, y6, y7, -, -, -, -, -, -, -, -⟩ := nd_facts (hSw.has 1 _ _ rfl).1
    go_simp
    (try with_reducible rfl)
  (try simp only [Act.put, List.getElem_toArray, List.getElem_cons_zero, List.getElem_cons_succ, List.setIfInBounds_toArray, List.set_cons_zero, List.set_cons_succ])
  refine wpAnyH_take (i := 4) (v := ?_) rfl (by decide +kernel) (by decide +kernel) (by decide +kernel) (fun _ _ _ h => h) (Or.inl ⟨by rfl, ?hy⟩) hcur ?_
  case hy =>
    intro w1 hSw
    (try dsimp only at hSw)
    obtain ⟨x0, x1, x2, x3, x4, x5, x6, x7, -, -, -, -, -, -, -, -⟩ := nd_facts (hSw.has 0 _ _ rfl).1
    obtain ⟨y0, y1, y2, y3, y4, y5, y6, y7, -, -, -, -, -, -, -, -⟩ := nd_facts (hSw.has 1 _ _ rfl).1
    go_simp
    (try with_reducible rfl)
  (try simp only [Act.put, List.getElem_toArray, List.getElem_cons_zero, List.getElem_cons_succ, List.setIfInBounds_toArray, List.set_cons_zero, List.set_cons_succ])
  refine wpAnyH_take (i := 5) (v := ?_) rfl (by decide +kernel) (by decide +kernel) (by decide +kernel) (fun _ _ _ h => h) (Or.inl ⟨by rfl, ?hy⟩) hcur ?_
  case hy =>
    intro w1 hSw
    (try dsimp only at hSw)
    obtain ⟨x0, x1, x2, x3, x4, x5, x6, x7, -, -, -, -, -, -, -, -⟩ := nd_facts (hSw.has 0 _ _ rfl).1
    obtain ⟨y0, y1, y2, y3, y4, y5, y6, y7, -, -, -, -, -, -, -, -⟩ := nd_facts (hSw.has 1 _ _ rfl).1
    go_simp
    (try with_reducible rfl)
  (try simp only [Act.put, List.getElem_toArray, List.getElem_cons_zero, List.getElem_cons_succ, List.setIfInBounds_toArray, List.set_cons_zero, List.set_cons_succ])
  obtain ⟨A5, c5, X5, hrun, hown, hbw, hc5⟩ := run_clone (P := Try.prog) (w := X) 24 24 3 (.int .i64 0) 8 (by kernel_rfl) joinI_info rfl (by omega) C kids.length cc (i64s kids) (HA.out.up HO.out.below).kids (i64s_one _) (by have := HLN.out; omega)
  have HO5 := Lib.hid (HO.out.row hbw hown)
  simp only [List.nil_append, List.cons_append] at HO5
  obtain ⟨P2_, pc2_, X6, hrun6, hc6, HO6⟩ := HO5.out.join (P := Try.prog) 2 rfl 24 24 (.int .i64 0) 8 (by kernel_rfl) joinI_info rfl C' kids'.length cc' (i64s kids') (HB.out.up HO5.out.below).kids (i64s_one _) (by have := HLN.out; omega) (by omega)
  simp only [List.set_cons_zero, List.set_cons_succ] at HO6
  replace HO6 := Lib.hid HO6
  refine wpAnyH_ready (rs := [0]) (by decide +kernel) (by simp) ?_
  refine AllReadyH.cons rfl (fun K hK => ?_) AllReadyH.nil
  go_simp
  refine hK.out _ _ ((HO.out.call (below_alloc X _)).sx.top 2) (fun hcur2 => ?_)
  clear hK K
  replace hcur := hcur2
  (try dsimp only at hcur)
  clear hcur2
  (try simp only [Act.put, List.getElem_toArray, List.getElem_cons_zero, List.getElem_cons_succ, List.setIfInBounds_toArray, List.set_cons_zero, List.set_cons_succ])
  refine wpAnyH_ready (rs := [3]) (by decide +kernel) (by simp) ?_
  refine AllReadyH.cons rfl (fun K hK => ?_) AllReadyH.nil
  (try rw [if_pos (by rfl)])
  refine oper_append_run (.tmp 32) (.tmp 34) 24 rfl rfl rfl hrun ?_
  refine hK.out _ _ (HO5.out.sx.top 2) (fun hcur2 => ?_)
  clear hK K
  replace hcur := hcur2
  (try dsimp only at hcur)
  clear hcur2
  (try simp only [Act.put, List.getElem_toArray, List.getElem_cons_zero, List.getElem_cons_succ, List.setIfInBounds_toArray, List.set_cons_zero, List.set_cons_succ])
  refine wpAnyH_ready (rs := [6]) (by decide +kernel) (by simp) ?_
  refine AllReadyH.cons rfl (fun K hK => ?_) AllReadyH.nil
  (try rw [if_pos (by rfl)])
  refine oper_append_run (.tmp 35) (.tmp 37) 24 rfl rfl rfl hrun6 ?_
  refine hK.out _ _ (HO6.out.sx.top 2) (fun hcur2 => ?_)
  clear hK K
  replace hcur := hcur2
  (try dsimp only at hcur)
  clear hcur2
  (try simp only [Act.put, List.getElem_toArray, List.getElem_cons_zero, List.getElem_cons_succ, List.setIfInBounds_toArray, List.set_cons_zero, List.set_cons_succ])
  clear HO HO5 hrun hrun6 hown hbw
  have HO := HO6
  clear HO6
  refine wpAnyH_take (i := 7) (v := ?_) rfl (by decide +kernel) (by decide +kernel) (by decide +kernel) (fun _ _ _ h => h) (Or.inl ⟨by rfl, ?hy⟩) hcur ?_
  case hy =>
    intro w1 hSw
    (try dsimp only at hSw)
    obtain ⟨x0, x1, x2, x3, x4, x5, x6, x7, -, -, -, -, -, -, -, -⟩ := nd_facts (hSw.has 0 _ _ rfl).1
    obtain ⟨y0, y1, y2, y3, y4, y5, y6, y7, -, -, -, -, -, -, -, -⟩ := nd_facts (hSw.has 1 _ _ rfl).1
    go_simp
    (try with_reducible rfl)
  (try simp only [Act.put, List.getElem_toArray, List.getElem_cons_zero, List.getElem_cons_succ, List.setIfInBounds_toArray, List.set_cons_zero, List.set_cons_succ])
  refine wpAnyH_ready (rs := [8]) (by decide +kernel) (by simp) ?_
  refine AllReadyH.cons rfl (fun K hK => ?_) AllReadyH.nil
  obtain ⟨x0, x1, x2, x3, x4, x5, x6, x7, f0, f1, f2, f3, f4, f5, f6, f7⟩ := nd_facts (HO.out.sx.has 3 _ _ rfl).1
  go_simp
  clear x0 x1 x2 x3 x4 x5 x6 x7 f0 f1 f2 f3 f4 f5 f6 f7
  have hO := HO.out.setc 3 rfl 7 (.slice P2_ (kids.length + kids'.length) pc2_)
  simp only [List.set_cons_zero, List.set_cons_succ] at hO
  refine hK.out _ _ (hO.sx.top 2) (fun hcur2 => ?_)
  clear hK K
  replace hcur := hcur2
  (try dsimp only at hcur)
  clear hcur2
  (try simp only [Act.put, List.getElem_toArray, List.getElem_cons_zero, List.getElem_cons_succ, List.setIfInBounds_toArray, List.set_cons_zero, List.set_cons_succ])
  generalize World.setCell _ _ _ = X9 at hO hcur ⊢
  replace HO := Lib.hid hO
  clear hO hcur
  refine wpAnyH_done (by decide +kernel) ?_ _
  have HO2 := HO
  obtain ⟨s0, s1, s2, s3, s4, s5, s6, s7, -, -, -, -, -, -, -, -⟩ := nd_facts (HO.out.sx.has 3 _ _ rfl).1
  obtain ⟨y0, y1, y2, y3, y4, y5, y6, y7, q0, q1, q2, q3, q4, q5, q6, q7⟩ := nd_facts (HO.out.sx.has 2 _ _ rfl).1
  have hZ := HO.out.store 2 rfl (.int .i64 level) (.string nlow) (.string high') (.bool last') (.int .i64 next') (.slice P0_ (keys.length + keys'.length) pc0_) (.slice P1_ (vals.length + vals'.length) pc1_) (.slice P2_ (kids.length + kids'.length) pc2_)
  have hkr := hZ.rowRd 0 rfl
  rw [← strs_app] at hkr
  have hvr := hZ.rowRd 1 rfl
  rw [← u64s_app] at hvr
  have hcr := hZ.rowRd 2 rfl
  rw [← i64s_app] at hcr
  have hfit : Fits (keys ++ keys') := fits_app HA.out.fit HB.out.fit
  have hlies : LiesF w.heap.size _ ⟨level, nlow, high', last', next', keys ++ keys', vals ++ vals', kids ++ kids'⟩ P0_ P1_ P2_ pc0_ pc1_ pc2_ :=
    ⟨{ low := HA.out.low, high := HB.out.high, fit := hfit, la := by have := HLN.out; simp only [List.length_append]; omega, lb := by have := HLN.out; simp only [List.length_append]; omega, lc := by have := HLN.out; simp only [List.length_append]; omega
       keys := by rw [List.length_append]; exact hkr
       vals := by rw [List.length_append]; exact hvr
       kids := by rw [List.length_append]; exact hcr
       ka := by rw [List.length_append]; exact hZ.rowLe 0 rfl
       kb := by rw [List.length_append]; exact hZ.rowLe 1 rfl
       kc := by rw [List.length_append]; exact hZ.rowLe 2 rfl },
     fun _ a e => hZ.rowF 0 rfl a e, fun _ a e => hZ.rowF 1 rfl a e, fun _ a e => hZ.rowF 2 rfl a e⟩
  have hcells : ndCells ⟨level, nlow, high', last', next', keys ++ keys', vals ++ vals', kids ++ kids'⟩ P0_ P1_ P2_ pc0_ pc1_ pc2_ = #[.int .i64 level, .string nlow, .string high', .bool last', .int .i64 next', .slice P0_ (keys.length + keys'.length) pc0_, .slice P1_ (vals.length + vals'.length) pc1_, .slice P2_ (kids.length + kids'.length) pc2_] := by
    simp only [ndCells, List.length_append]
  have HFI := And.intro hZ.below (And.intro hlies hcells)
  simp only [set8] at HFI
  replace HFI := Lib.hid HFI
  clear hZ hkr hvr hcr hlies hcells hfit HO HO2
  obtain rfl := HON.out
  go_wp2_with fail
  exact bodyPost_ret (v := .agg #[.int .i64 level, .string nlow, .string high', .bool last', .int .i64 next', .slice P0_ (keys.length + keys'.length) pc0_, .slice P1_ (vals.length + vals'.length) pc1_, .slice P2_ (kids.length + kids'.length) pc2_]) (by simp [results, Try.results104, go_sem, *]) rfl ⟨P0_, P1_, P2_, pc0_, pc1_, pc2_, by rw [HFI.out.2.2], HFI.out.2.1, HFI.out.1⟩

set_option maxRecDepth 100000 in
set_option maxHeartbeats 16000000 in
theorem refmerge_any (a b : Nd) (fan : Int) (A B C A' B' C' : Option Addr) (ca cb cc ca' cb' cc' : Nat) (w : World) (h : Lies w a A B C ca cb cc) (k : Lies w b A' B' C' ca' cb' cc') :
    Calls Try.prog 50 #[.agg (ndCells a A B C ca cb cc), .agg (ndCells b A' B' C' ca' cb' cc'), .int .i64 fan] w (NRet (mergeD a b fan) w) := by
  have hS := Lib.hid (Sx.start3b w (.cells (ndCells a A B C ca cb cc) 26) (.cells (ndCells b A' B' C' ca' cb' cc') 26) (.cells #[.int .i64 0, .string ⟨#[]⟩, .string ⟨#[]⟩, .bool false, .int .i64 0, .slice none 0 0, .slice none 0 0, .slice none 0 0] 26))
  have HA := Lib.hid h
  have HB := Lib.hid k
  have HNb := Lib.hid (fun W hW kW => refneigh_any a b A B C A' B' C' ca cb cc ca' cb' cc' W hW kW)
  have HBo := Lib.hid (fun W hW kW (q : neighB a b = true) => refboth_any a b A B C A' B' C' ca cb cc ca' cb' cc' W hW kW (neigh_lens q).1 (neigh_lens q).2)
  have hpb : mergeB a b fan = (neighB a b && (decide (4 ≤ fan ∧ fan ≤ 64) && decide ((a.keys.length : Int) + b.keys.length ≤ fan))) := rfl
  have hno := Lib.hid (fun (q : mergeB a b fan = false) => mergeD_no q)
  have hyes := Lib.hid (fun (q : mergeB a b fan = true) => mergeD_yes q)
  have hln := Lib.hid (fun (q : neighB a b = true) => neigh_lens q)
  clear h k
  generalize hon : mergeD a b fan = o at hno hyes ⊢
  clear hon
  generalize mergeB a b fan = pb at hpb hno hyes
  generalize neighB a b = nb at hpb HNb HBo hln
  generalize bothN a b = bo at hyes HBo
  have HPB := Lib.hid hpb
  clear hpb
  obtain ⟨level, nlow, high, last, next, keys, vals, kids⟩ := a
  obtain ⟨level', nlow', high', last', next', keys', vals', kids'⟩ := b
  simp only [] at HPB hln
  simp only [ndCells] at hS HNb HBo ⊢
  go_enter Try.func50, Try.ntmps50
  go_upto_region 1 with fail
  generalize ((w.alloc _).alloc _).alloc _ = W at hS ⊢
  obtain ⟨x0, x1, x2, x3, x4, x5, x6, x7, f0, f1, f2, f3, f4, f5, f6, f7⟩ := nd_facts (hS.out.has 0 _ _ rfl).1
  obtain ⟨y0, y1, y2, y3, y4, y5, y6, y7, q0, q1, q2, q3, q4, q5, q6, q7⟩ := nd_facts (hS.out.has 1 _ _ rfl).1
  go_wp2_with fail
  refine (HNb.out _ (HA.out.up hS.out.below) (HB.out.up hS.out.below)).mono ?_
  rintro e wn ⟨rfl, hbn⟩
  clear x0 x1 x2 x3 x4 x5 x6 x7 f0 f1 f2 f3 f4 f5 f6 f7
  clear y0 y1 y2 y3 y4 y5 y6 y7 q0 q1 q2 q3 q4 q5 q6 q7
  replace hS := Lib.hid (hS.out.call hbn)
  clear hbn
  obtain ⟨x0, x1, x2, x3, x4, x5, x6, x7, f0, f1, f2, f3, f4, f5, f6, f7⟩ := nd_facts (hS.out.has 0 _ _ rfl).1
  obtain ⟨y0, y1, y2, y3, y4, y5, y6, y7, q0, q1, q2, q3, q4, q5, q6, q7⟩ := nd_facts (hS.out.has 1 _ _ rfl).1
  cases nb
  · obtain rfl : o = (false, zeroN) := hno.out (by rw [HPB.out]; rfl)
    obtain ⟨z0, z1, z2, z3, z4, z5, z6, z7, r0, r1, r2, r3, r4, r5, r6, r7⟩ := nd_facts (hS.out.has 2 _ _ rfl).1
    have hZ := (hS.out.store 2 rfl (.int .i64 0) (.string ⟨#[]⟩) (.string ⟨#[]⟩) (.bool false) (.int .i64 0) (.slice none 0 0) (.slice none 0 0) (.slice none 0 0)).below
    simp only [set8] at hZ
    have HZ := Lib.hid hZ
    clear hZ
    go_wp2_with fail
    exact bodyPost_ret (v := .tuple #[.agg #[.int .i64 0, .string ⟨#[]⟩, .string ⟨#[]⟩, .bool false, .int .i64 0, .slice none 0 0, .slice none 0 0, .slice none 0 0], .bool false]) (by simp [results, Try.results50, go_sem, *]) rfl ⟨none, none, none, 0, 0, 0, rfl, zero_lies _, HZ.out⟩
  · have hlk := hln.out (by trivial)
    by_cases h1 : fan < 4
    · obtain rfl : o = (false, zeroN) := hno.out (by rw [HPB.out, decide_eq_false (p := 4 ≤ fan ∧ fan ≤ 64) (by omega)]; rfl)
      have h1b : decide (fan < 4) = true := decide_eq_true h1
      clear hlk
      obtain ⟨z0, z1, z2, z3, z4, z5, z6, z7, r0, r1, r2, r3, r4, r5, r6, r7⟩ := nd_facts (hS.out.has 2 _ _ rfl).1
      have hZ := (hS.out.store 2 rfl (.int .i64 0) (.string ⟨#[]⟩) (.string ⟨#[]⟩) (.bool false) (.int .i64 0) (.slice none 0 0) (.slice none 0 0) (.slice none 0 0)).below
      simp only [set8] at hZ
      have HZ := Lib.hid hZ
      clear hZ
      go_wp2_with fail
      exact bodyPost_ret (v := .tuple #[.agg #[.int .i64 0, .string ⟨#[]⟩, .string ⟨#[]⟩, .bool false, .int .i64 0, .slice none 0 0, .slice none 0 0, .slice none 0 0], .bool false]) (by simp [results, Try.results50, go_sem, *]) rfl ⟨none, none, none, 0, 0, 0, rfl, zero_lies _, HZ.out⟩
    · have h1b : decide (fan < 4) = false := decide_eq_false h1
      by_cases h2 : 64 < fan
      · obtain rfl : o = (false, zeroN) := hno.out (by rw [HPB.out, decide_eq_false (p := 4 ≤ fan ∧ fan ≤ 64) (by omega)]; rfl)
        have h2b : decide (64 < fan) = true := decide_eq_true h2
        clear hlk
        obtain ⟨z0, z1, z2, z3, z4, z5, z6, z7, r0, r1, r2, r3, r4, r5, r6, r7⟩ := nd_facts (hS.out.has 2 _ _ rfl).1
        have hZ := (hS.out.store 2 rfl (.int .i64 0) (.string ⟨#[]⟩) (.string ⟨#[]⟩) (.bool false) (.int .i64 0) (.slice none 0 0) (.slice none 0 0) (.slice none 0 0)).below
        simp only [set8] at hZ
        have HZ := Lib.hid hZ
        clear hZ
        go_wp2_with fail
        exact bodyPost_ret (v := .tuple #[.agg #[.int .i64 0, .string ⟨#[]⟩, .string ⟨#[]⟩, .bool false, .int .i64 0, .slice none 0 0, .slice none 0 0, .slice none 0 0], .bool false]) (by simp [results, Try.results50, go_sem, *]) rfl ⟨none, none, none, 0, 0, 0, rfl, zero_lies _, HZ.out⟩
      · have h2b : decide (64 < fan) = false := decide_eq_false h2
        have hms : wrap64 ((keys.length : Int) + (keys'.length : Int)) = (keys.length : Int) + (keys'.length : Int) := by unfold wrap64; omega
        by_cases h3 : fan < (keys.length : Int) + (keys'.length : Int)
        · obtain rfl : o = (false, zeroN) := hno.out (by rw [HPB.out, decide_eq_false (p := (keys.length : Int) + keys'.length ≤ fan) (by omega)]; simp)
          have h3b : decide (fan < (keys.length : Int) + (keys'.length : Int)) = true := decide_eq_true h3
          clear hlk
          obtain ⟨z0, z1, z2, z3, z4, z5, z6, z7, r0, r1, r2, r3, r4, r5, r6, r7⟩ := nd_facts (hS.out.has 2 _ _ rfl).1
          have hZ := (hS.out.store 2 rfl (.int .i64 0) (.string ⟨#[]⟩) (.string ⟨#[]⟩) (.bool false) (.int .i64 0) (.slice none 0 0) (.slice none 0 0) (.slice none 0 0)).below
          simp only [set8] at hZ
          have HZ := Lib.hid hZ
          clear hZ
          go_wp2_with fail
          exact bodyPost_ret (v := .tuple #[.agg #[.int .i64 0, .string ⟨#[]⟩, .string ⟨#[]⟩, .bool false, .int .i64 0, .slice none 0 0, .slice none 0 0, .slice none 0 0], .bool false]) (by simp [results, Try.results50, go_sem, *]) rfl ⟨none, none, none, 0, 0, 0, rfl, zero_lies _, HZ.out⟩
        · have h3b : decide (fan < (keys.length : Int) + (keys'.length : Int)) = false := decide_eq_false h3
          have hpt : pb = true := by rw [HPB.out, decide_eq_true (p := 4 ≤ fan ∧ fan ≤ 64) (by omega), decide_eq_true (p := (keys.length : Int) + keys'.length ≤ fan) (by omega)]; rfl
          obtain rfl := hyes.out hpt
          clear hlk hpt
          go_wp2_with fail
          refine (HBo.out _ (HA.out.up hS.out.below) (HB.out.up hS.out.below) (by trivial)).mono ?_
          rintro e W1 ⟨A1, B1, C1, ca1, cb1, cc1, rfl, hl, hb⟩
          clear x0 x1 x2 x3 x4 x5 x6 x7 f0 f1 f2 f3 f4 f5 f6 f7
          clear y0 y1 y2 y3 y4 y5 y6 y7 q0 q1 q2 q3 q4 q5 q6 q7
          have HBW := Lib.hid (hS.out.lt (i := 2) rfl)
          replace hS := Lib.hid (hS.out.call hb)
          obtain ⟨y0, y1, y2, y3, y4, y5, y6, y7, q0, q1, q2, q3, q4, q5, q6, q7⟩ := nd_facts (hS.out.has 2 _ _ rfl).1
          obtain ⟨level1, nlow1, high1, last1, next1, keys1, vals1, kids1⟩ := bo
          simp only [ndCells] at hl ⊢
          have hZ := hS.out.store 2 rfl (.int .i64 level1) (.string nlow1) (.string high1) (.bool last1) (.int .i64 next1) (.slice A1 keys1.length ca1) (.slice B1 vals1.length cb1) (.slice C1 kids1.length cc1)
          have hlF := hl.off (set8_off W1 (w.heap.size + 1 + 1) (.int .i64 level1) (.string nlow1) (.string high1) (.bool last1) (.int .i64 next1) (.slice A1 keys1.length ca1) (.slice B1 vals1.length cb1) (.slice C1 kids1.length cc1)) (fun k q => by have := HBW.out; rw [q]; exact this)
          have HFI := And.intro hZ.below hlF.lies
          simp only [set8] at HFI
          replace HFI := Lib.hid HFI
          clear hZ hlF hl hb
          go_wp2_with fail
          exact bodyPost_ret (v := .tuple #[.agg #[.int .i64 level1, .string nlow1, .string high1, .bool last1, .int .i64 next1, .slice A1 keys1.length ca1, .slice B1 vals1.length cb1, .slice C1 kids1.length cc1], .bool true]) (by simp [results, Try.results50, go_sem, *]) rfl ⟨_, _, _, _, _, _, by simp [ndCells], HFI.out.2, HFI.out.1⟩


end Go.Proofs.Ytcoiadncennhpaa
