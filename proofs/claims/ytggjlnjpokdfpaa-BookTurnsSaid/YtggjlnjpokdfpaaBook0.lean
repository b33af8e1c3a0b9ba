/- The plain law of the book: the program's map and the document's go together. -/
import Derived.Test.YtggjlnjpokdfpaaBook3
namespace Go.Proofs.Ytggjlnjpokdfpaa
open Go.RowKit

theorem kb_zip {ks : List ByteArray} {vs : List Int} (h : ks.length = vs.length) (j : Nat) (hj : j < (Pl.zipP ks vs).length) : Pl.kb (Pl.zipP ks vs)[j] = Pl.tx ks j := by
  have hl := Pl.zipP_len h
  rw [Pl.zipP_at j (by omega) (by omega) hj, Pl.tx_eq ks j (by omega)]
  rfl
theorem GoodM.next {ks : List ByteArray} {vs : List Int} (h : GoodM ks vs) {ms : List PairD} (hp : ms.Perm (Pl.zipP ks vs)) (k : ByteArray) : Pl.nextM ms k.data.toList = atO (Pl.zipP ks vs) (nxI ks k) := by
  have hl := Pl.zipP_len h.len
  obtain ⟨s1, s2⟩ := Pl.findAt_spec h.up k.data.toList
  unfold nxI
  cases hf : Pl.findIs ks k.data.toList
  · rw [if_neg Bool.false_ne_true, atO_nat]
    refine Pl.nextM_row h.rows hp _ _ (fun j hj hlt => ?_) (fun j hj hle => ?_)
    · rw [kb_zip h.len]; exact Pl.ls_asymm _ _ (s1 j hlt)
    · rw [kb_zip h.len]
      cases hh : Pl.ls k.data.toList (Pl.tx ks j) with
      | true => rfl
      | false =>
        have e := Pl.ls_total _ _ (s2 j hle (by omega)) hh
        have := (Pl.findIs_iff h.up k.data.toList).2 ⟨j, by omega, e⟩
        rw [hf] at this; cases this
  · have hlt := findIs_lt hf
    have e : Pl.tx ks (Pl.findAt ks k.data.toList) = k.data.toList := by
      rw [Pl.tx_eq ks _ hlt, findIs_key hf]
    rw [if_pos rfl, show ((Pl.findAt ks k.data.toList : Int) + 1) = ((Pl.findAt ks k.data.toList + 1 : Nat) : Int) by omega, atO_nat]
    refine Pl.nextM_row h.rows hp _ _ (fun j hj hlt2 => ?_) (fun j hj hle => ?_)
    · rw [kb_zip h.len]
      rcases Nat.lt_succ_iff_lt_or_eq.1 hlt2 with g | rfl
      · exact Pl.ls_asymm _ _ (s1 j g)
      · rw [e]; exact Pl.ls_irrefl _
    · rw [kb_zip h.len]
      have := Pl.rises_lt h.up (Pl.findAt ks k.data.toList) j (by omega) (by omega)
      rwa [e] at this
theorem GoodM.prev {ks : List ByteArray} {vs : List Int} (h : GoodM ks vs) {ms : List PairD} (hp : ms.Perm (Pl.zipP ks vs)) (k : ByteArray) : Pl.prevM ms k.data.toList false = atO (Pl.zipP ks vs) ((Pl.findAt ks k.data.toList : Int) - 1) := by
  have hl := Pl.zipP_len h.len
  obtain ⟨s1, s2⟩ := Pl.findAt_spec h.up k.data.toList
  rw [Pl.prevM_row h.rows hp _ (Pl.findAt ks k.data.toList) (by rw [hl]; exact Pl.findAt_le _ _) (fun j hj hlt => by rw [kb_zip h.len]; exact s1 j hlt) (fun j hj hle => by rw [kb_zip h.len]; exact s2 j hle (by omega))]
  unfold atO
  by_cases h0 : Pl.findAt ks k.data.toList = 0
  · rw [if_pos h0, if_neg (by omega)]
  · rw [if_neg h0, if_pos (by omega)]
    congr 1
    omega
theorem GoodM.max {ks : List ByteArray} {vs : List Int} (h : GoodM ks vs) {ms : List PairD} (hp : ms.Perm (Pl.zipP ks vs)) (k : List UInt8) : Pl.prevM ms k true = atO (Pl.zipP ks vs) ((ks.length : Int) - 1) := by
  have hl := Pl.zipP_len h.len
  rw [Pl.prevM_all h.rows hp k]
  unfold atO
  by_cases h0 : (Pl.zipP ks vs).length = 0
  · rw [if_pos h0, if_neg (by omega)]
  · rw [if_neg h0, if_pos (by omega)]
    congr 1
    omega
theorem takeWhile_filter {r : List PairD} (h : Pl.UpM r) (high : List UInt8) : r.filter (fun p => !Pl.ls high p.key.data.toList) = r.takeWhile (fun p => !Pl.ls high p.key.data.toList) := by
  induction r with
  | nil => rfl
  | cons p t ih =>
    have ht : Pl.UpM t := List.Pairwise.tail h
    cases hh : Pl.ls high p.key.data.toList with
    | false => rw [List.filter_cons_of_pos (by simp [hh]), List.takeWhile_cons_of_pos (by simp [hh]), ih ht]
    | true =>
      rw [List.filter_cons_of_neg (by simp [hh]), List.takeWhile_cons_of_neg (by simp [hh])]
      rw [List.filter_eq_nil_iff]
      intro q hq
      have h1 := (List.pairwise_cons.1 h).1 q hq
      have h2 : Pl.ls high q.key.data.toList = true := Pl.ls_trans _ _ _ hh h1
      simp [h2]
theorem GoodM.scan {ks : List ByteArray} {vs : List Int} (h : GoodM ks vs) {ms : List PairD} (hp : ms.Perm (Pl.zipP ks vs)) (low high : ByteArray) (limit : Int) :
    Pl.scanL (Pl.allM ms ms.length) low.data.toList high.data.toList limit = scanP (Pl.zipP ks vs) (Pl.findAt ks low.data.toList) high.data.toList limit := by
  have hl := Pl.zipP_len h.len
  obtain ⟨s1, s2⟩ := Pl.findAt_spec h.up low.data.toList
  rw [Pl.allM_all h.rows hp]
  unfold Pl.scanL scanP
  congr 1
  have hle : Pl.findAt ks low.data.toList ≤ (Pl.zipP ks vs).length := by rw [hl]; exact Pl.findAt_le _ _
  have e : Pl.zipP ks vs = (Pl.zipP ks vs).take (Pl.findAt ks low.data.toList) ++ (Pl.zipP ks vs).drop (Pl.findAt ks low.data.toList) := (List.take_append_drop _ _).symm
  have h1 : ((Pl.zipP ks vs).take (Pl.findAt ks low.data.toList)).filter (Pl.withinB low.data.toList high.data.toList) = [] := by
    rw [List.filter_eq_nil_iff]
    intro p hp2
    obtain ⟨j, hj, rfl⟩ := List.getElem_of_mem hp2
    rw [List.length_take] at hj
    rw [List.getElem_take]
    have := s1 j (by omega)
    unfold Pl.withinB
    rw [kb_zip h.len, this]
    simp
  have h2 : ((Pl.zipP ks vs).drop (Pl.findAt ks low.data.toList)).filter (Pl.withinB low.data.toList high.data.toList) = ((Pl.zipP ks vs).drop (Pl.findAt ks low.data.toList)).filter (fun p => !Pl.ls high.data.toList p.key.data.toList) := by
    apply List.filter_congr
    intro p hp2
    obtain ⟨j, hj, rfl⟩ := List.getElem_of_mem hp2
    rw [List.length_drop] at hj
    have hz : Pl.kb ((Pl.zipP ks vs).drop (Pl.findAt ks low.data.toList))[j] = Pl.tx ks (Pl.findAt ks low.data.toList + j) := by rw [List.getElem_drop, kb_zip h.len]
    have := s2 (Pl.findAt ks low.data.toList + j) (by omega) (by omega)
    rw [← hz] at this
    unfold Pl.withinB
    rw [this]
    rfl
  have h3 : (Pl.zipP ks vs).filter (Pl.withinB low.data.toList high.data.toList) = ((Pl.zipP ks vs).take (Pl.findAt ks low.data.toList)).filter (Pl.withinB low.data.toList high.data.toList) ++ ((Pl.zipP ks vs).drop (Pl.findAt ks low.data.toList)).filter (Pl.withinB low.data.toList high.data.toList) := by
    rw [← List.filter_append, List.take_append_drop]
  rw [h3, h1, List.nil_append, h2]
  exact takeWhile_filter (List.Pairwise.sublist (List.drop_sublist _ _) h.rows) _

/-- What the program does and what the document does go together. -/
theorem do_same {ks : List ByteArray} {vs : List Int} (h : GoodM ks vs) {ms : List PairD} (hp : ms.Perm (Pl.zipP ks vs)) (o : OpD) :
    (refdoD ms o).2 = (doD ks vs o).1 ∧ GoodM (doD ks vs o).2.1 (doD ks vs o).2.2 ∧ (refdoD ms o).1.Perm (Pl.zipP (doD ks vs o).2.1 (doD ks vs o).2.2) := by
  have hg : Pl.getM ms o.key = mGet ks vs o.key := by rw [h.get, Pl.getM_perm h.rows.uniq hp]
  obtain ⟨p1, p2⟩ := h.put o.key (o.val : Int)
  obtain ⟨d1, d2⟩ := h.del o.key
  unfold refdoD doD
  cases hob : opB o
  · rw [if_neg Bool.false_ne_true, if_neg Bool.false_ne_true]
    exact ⟨rfl, h, hp⟩
  · rw [if_pos rfl, if_pos rfl]
    have hk := opB_kind hob
    unfold refdo1 readsB
    rw [hg, hob, Bool.true_and]
    unfold readD writeD getA
    rcases (show o.kind = 1 ∨ o.kind = 2 ∨ o.kind = 3 ∨ o.kind = 4 ∨ o.kind = 5 ∨ o.kind = 6 ∨ o.kind = 7 ∨ o.kind = 8 ∨ o.kind = 9 ∨ o.kind = 10 by omega) with e | e | e | e | e | e | e | e | e | e
    all_goals rw [e]
    · cases hb : (mGet ks vs o.key).2 <;> simp [h, hp]
    · cases hb : (mGet ks vs o.key).2
      · simp [p1, p2 ms hp]
      · simp [h, hp]
    · cases hb : (mGet ks vs o.key).2
      · simp [p1, p2 ms hp]
      · simp [p1, p2 ms hp]
    · cases hb : (mGet ks vs o.key).2
      · simp [h, hp]
      · simp [d1, d2 ms hp]
    · cases hb : (mGet ks vs o.key).2
      · simp [h, hp]
      · by_cases hv : (mGet ks vs o.key).1 = (o.val : Int)
        · simp [hv, d1, d2 ms hp]
        · simp [hv, h, hp]
    · refine ⟨?_, ?_, ?_⟩
      · rw [Pl.allM_all h.rows hp]; simp [atO]
      · simpa using h
      · simpa using hp
    · refine ⟨?_, ?_, ?_⟩
      · have := h.max hp []; simp [this]
      · simpa using h
      · simpa using hp
    · refine ⟨?_, ?_, ?_⟩
      · have := h.next hp o.key; simp [this]
      · simpa using h
      · simpa using hp
    · refine ⟨?_, ?_, ?_⟩
      · have := h.prev hp o.key; simp [this]
      · simpa using h
      · simpa using hp
    · refine ⟨?_, ?_, ?_⟩
      · have := h.scan hp o.key o.upto o.limit; simp [this]
      · simpa using h
      · simpa using hp

end Go.Proofs.Ytggjlnjpokdfpaa
