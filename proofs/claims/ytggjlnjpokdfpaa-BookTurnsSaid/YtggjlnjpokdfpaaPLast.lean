/- Plain facts on maps that are made of pairs, one behind the other, from the front or from the back. No program. -/
import Derived.Test.YtggjlnjpokdfpaaPMap3
namespace Go.Proofs.Ytggjlnjpokdfpaa
open Go.RowKit

theorem gotM_app (a b : List PairD) (k : ByteArray) : Pl.gotM (a ++ b) k = (Pl.gotM a k).or (Pl.gotM b k) := List.find?_append
theorem gotM_one (p : PairD) (k : ByteArray) : Pl.gotM [p] k = if p.key = k then some p else none := by
  unfold Pl.gotM
  rw [List.find?_cons]
  by_cases h : p.key = k
  · rw [if_pos h, decide_eq_true h]
  · rw [if_neg h, decide_eq_false h]; rfl
theorem gotM_del : ∀ (m : List PairD) (k k' : ByteArray), Pl.gotM (Pl.delM m k) k' = if k' = k then none else Pl.gotM m k'
  | [], k, k' => by split <;> rfl
  | p :: t, k, k' => by
    have ih := gotM_del t k k'
    have e : Pl.gotM (p :: t) k' = if p.key = k' then some p else Pl.gotM t k' := by
      have := gotM_app [p] t k'
      rw [gotM_one] at this
      rw [show p :: t = [p] ++ t from rfl, this]
      by_cases h : p.key = k'
      · rw [if_pos h, if_pos h]; rfl
      · rw [if_neg h, if_neg h]; rfl
    by_cases h : p.key = k
    · have e2 : Pl.delM (p :: t) k = Pl.delM t k := by unfold Pl.delM; rw [List.filter_cons, if_neg (by simp [h])]
      rw [e2, ih, e]
      by_cases h2 : k' = k
      · rw [if_pos h2, if_pos h2]
      · rw [if_neg h2, if_neg h2, if_neg (fun q => h2 (q.symm.trans h))]
    · have e2 : Pl.delM (p :: t) k = p :: Pl.delM t k := by unfold Pl.delM; rw [List.filter_cons, if_pos (by simp [h])]
      have e3 : Pl.gotM (p :: Pl.delM t k) k' = if p.key = k' then some p else Pl.gotM (Pl.delM t k) k' := by
        have := gotM_app [p] (Pl.delM t k) k'
        rw [gotM_one] at this
        rw [show p :: Pl.delM t k = [p] ++ Pl.delM t k from rfl, this]
        by_cases h : p.key = k'
        · rw [if_pos h, if_pos h]; rfl
        · rw [if_neg h, if_neg h]; rfl
      rw [e2, e3, e, ih]
      by_cases h3 : p.key = k'
      · rw [if_pos h3, if_pos h3, if_neg (fun q => h (h3.trans q))]
      · rw [if_neg h3, if_neg h3]
theorem gotM_put (m : List PairD) (k : ByteArray) (v : Int) (k' : ByteArray) : Pl.gotM (Pl.putM m k v) k' = if k' = k then some ⟨k, v⟩ else Pl.gotM m k' := by
  unfold Pl.putM
  rw [gotM_app, gotM_del, gotM_one]
  by_cases h : k' = k
  · rw [if_pos h, if_pos h, if_pos h.symm]; rfl
  · rw [if_neg h, if_neg h, if_neg (fun q => h q.symm)]
    cases Pl.gotM m k' <;> rfl

/-- A map's rows. -/
structure GoodM (ks : List ByteArray) (vs : List Int) : Prop where
  len : ks.length = vs.length
  up : Pl.rises ks = true
theorem GoodM.rows {ks : List ByteArray} {vs : List Int} (h : GoodM ks vs) : Pl.UpM (Pl.zipP ks vs) := Pl.zipP_up h.len h.up
theorem good_nil : GoodM [] [] := ⟨rfl, rfl⟩
theorem ups_insM {ss : List ByteArray} {k : ByteArray} (h : Pl.rises ss = true) (hi : Pl.findIs ss k.data.toList = false) : Pl.rises (ins ss (Pl.findAt ss k.data.toList) k) = true := by
  obtain ⟨h1, h2⟩ := Pl.findAt_spec h k.data.toList
  have h3 : ∀ i, Pl.findAt ss k.data.toList ≤ i → i < ss.length → Pl.ls k.data.toList (Pl.tx ss i) = true := by
    intro i hge hlt
    cases hh : Pl.ls k.data.toList (Pl.tx ss i) with
    | true => rfl
    | false =>
      have e := Pl.ls_total _ _ (h2 i hge hlt) hh
      have := (Pl.findIs_iff h k.data.toList).2 ⟨i, hlt, e⟩
      rw [hi] at this; cases this
  have hup := (Pl.rises_up ss).1 h
  rw [Pl.rises_up]
  unfold ins Pl.Up
  rw [List.pairwise_append, List.pairwise_cons]
  have hd : ∀ s ∈ ss.drop (Pl.findAt ss k.data.toList), Pl.ls k.data.toList s.data.toList = true := by
    intro s hs
    obtain ⟨i, hi2, rfl⟩ := List.getElem_of_mem hs
    rw [List.length_drop] at hi2
    rw [List.getElem_drop]
    have := h3 (Pl.findAt ss k.data.toList + i) (by omega) (by omega)
    rwa [Pl.tx_eq ss _ (by omega)] at this
  have ht : ∀ s ∈ ss.take (Pl.findAt ss k.data.toList), Pl.ls s.data.toList k.data.toList = true := by
    intro s hs
    obtain ⟨i, hi2, rfl⟩ := List.getElem_of_mem hs
    rw [List.length_take] at hi2
    rw [List.getElem_take]
    have := h1 i (by omega)
    rwa [Pl.tx_eq ss _ (by omega)] at this
  refine ⟨hup.sublist (List.take_sublist _ _), ⟨hd, hup.sublist (List.drop_sublist _ _)⟩, fun s hs t hts => ?_⟩
  rw [List.mem_cons] at hts
  rcases hts with rfl | hts
  · exact ht s hs
  · exact Pl.ls_trans _ _ _ (ht s hs) (hd t hts)
theorem findIs_key {ks : List ByteArray} {k : ByteArray} (e : Pl.findIs ks k.data.toList = true) : ks[Pl.findAt ks k.data.toList]'(findIs_lt e) = k := by
  have h1 := findIs_lt e
  unfold Pl.findIs at e
  rw [Bool.and_eq_true, beq_iff_eq] at e
  have h2 := e.2
  rw [Pl.tx_eq ks _ h1] at h2
  exact ByteArray.ext (Array.toList_inj.1 h2)
/-- Put, and Delete, keep it a map's rows, and do what the document's do. -/
theorem GoodM.put {ks : List ByteArray} {vs : List Int} (h : GoodM ks vs) (k : ByteArray) (v : Int) : GoodM (pKs ks k) (pVs ks vs k v) ∧ ∀ m : List PairD, m.Perm (Pl.zipP ks vs) → (Pl.putM m k v).Perm (Pl.zipP (pKs ks k) (pVs ks vs k v)) := by
  unfold pKs pVs
  have hle := Pl.findAt_le ks k.data.toList
  cases hf : Pl.findIs ks k.data.toList
  · rw [if_neg Bool.false_ne_true, if_neg Bool.false_ne_true]
    refine ⟨⟨by rw [insl _ hle, insl _ (by rw [← h.len]; exact hle), h.len], ups_insM h.up hf⟩, fun m hm => ?_⟩
    rw [Pl.zipP_ins h.len]
    refine Pl.putM_ins hm fun p hp e => ?_
    obtain ⟨i, hi, rfl⟩ := List.getElem_of_mem hp
    have hl := Pl.zipP_len h.len
    rw [Pl.zipP_at i (by omega) (by have := h.len; omega) hi] at e
    have := (Pl.findIs_iff h.up k.data.toList).2 ⟨i, by omega, by rw [Pl.tx_eq ks i (by omega)]; simp only [] at e; rw [e]⟩
    rw [hf] at this; cases this
  · have hlt := findIs_lt hf
    have hk := findIs_key hf
    rw [if_pos rfl, if_pos rfl]
    refine ⟨⟨by rw [List.length_set]; exact h.len, h.up⟩, fun m hm => ?_⟩
    have hlz : Pl.findAt ks k.data.toList < (Pl.zipP ks vs).length := by rw [Pl.zipP_len h.len]; exact hlt
    have h1 := Pl.putM_set (v := v) h.rows hm hlz
    have h2 := Pl.zipP_at _ hlt (by rw [← h.len]; exact hlt) hlz
    rw [h2] at h1
    rw [Pl.zipP_set h.len _ v hlt]
    simp only [] at h1
    rw [hk] at h1 ⊢
    exact h1
theorem GoodM.del {ks : List ByteArray} {vs : List Int} (h : GoodM ks vs) (k : ByteArray) : GoodM (dKs ks k) (dVs ks vs k) ∧ ∀ m : List PairD, m.Perm (Pl.zipP ks vs) → (Pl.delM m k).Perm (Pl.zipP (dKs ks k) (dVs ks vs k)) := by
  unfold dKs dVs
  cases hf : Pl.findIs ks k.data.toList
  · rw [if_neg Bool.false_ne_true, if_neg Bool.false_ne_true]
    refine ⟨h, fun m hm => (Pl.delM_perm hm k).trans ?_⟩
    rw [Pl.delM_none fun p hp e => ?_]
    obtain ⟨i, hi, rfl⟩ := List.getElem_of_mem hp
    have hl := Pl.zipP_len h.len
    rw [Pl.zipP_at i (by omega) (by have := h.len; omega) hi] at e
    have := (Pl.findIs_iff h.up k.data.toList).2 ⟨i, by omega, by rw [Pl.tx_eq ks i (by omega)]; simp only [] at e; rw [e]⟩
    rw [hf] at this; cases this
  · have hlt := findIs_lt hf
    have hk := findIs_key hf
    rw [if_pos rfl, if_pos rfl]
    refine ⟨⟨by rw [List.length_eraseIdx_of_lt hlt, List.length_eraseIdx_of_lt (by rw [← h.len]; exact hlt), h.len], (Pl.rises_up _).2 (((Pl.rises_up _).1 h.up).sub (List.eraseIdx_sublist _ _))⟩, fun m hm => ?_⟩
    have hlz : Pl.findAt ks k.data.toList < (Pl.zipP ks vs).length := by rw [Pl.zipP_len h.len]; exact hlt
    have h1 := Pl.delM_at h.rows _ hlz
    have h2 := Pl.zipP_at _ hlt (by rw [← h.len]; exact hlt) hlz
    rw [h2] at h1
    simp only [] at h1
    rw [hk] at h1
    rw [Pl.zipP_cut h.len, ← h1]
    exact Pl.delM_perm hm k
/-- What a map gives for a key. -/
theorem GoodM.get {ks : List ByteArray} {vs : List Int} (h : GoodM ks vs) (k : ByteArray) : mGet ks vs k = Pl.getM (Pl.zipP ks vs) k := by
  unfold mGet Pl.getM
  have hl := Pl.zipP_len h.len
  cases hf : Pl.findIs ks k.data.toList
  · rw [if_neg Bool.false_ne_true, Pl.gotM_none fun p hp e => ?_]
    obtain ⟨i, hi, rfl⟩ := List.getElem_of_mem hp
    rw [Pl.zipP_at i (by omega) (by have := h.len; omega) hi] at e
    have := (Pl.findIs_iff h.up k.data.toList).2 ⟨i, by omega, by rw [Pl.tx_eq ks i (by omega)]; simp only [] at e; rw [e]⟩
    rw [hf] at this; cases this
  · have hlt := findIs_lt hf
    have hk := findIs_key hf
    have hlz : Pl.findAt ks k.data.toList < (Pl.zipP ks vs).length := by omega
    have hlv : Pl.findAt ks k.data.toList < vs.length := by rw [← h.len]; exact hlt
    have h2 := Pl.zipP_at _ hlt hlv hlz
    rw [if_pos rfl, Pl.gotM_some h.rows.uniq (List.getElem_mem hlz) (by rw [h2]; exact hk), h2]
    rw [List.getD_eq_getElem?_getD, List.getElem?_eq_getElem hlv]
    rfl

/-- Two rising rows that give the same for each key are one. -/
theorem up_nodup {r : List PairD} (h : Pl.UpM r) : r.Nodup := by
  refine List.Pairwise.imp (fun {a b} hab e => ?_) h
  rw [e, Pl.ls_irrefl] at hab
  cases hab
theorem up_mem {r : List PairD} (h : Pl.UpM r) (p : PairD) : p ∈ r ↔ Pl.gotM r p.key = some p :=
  ⟨fun hp => Pl.gotM_some h.uniq hp rfl, fun e => List.mem_of_find?_eq_some e⟩
theorem up_ext {r r' : List PairD} (h : Pl.UpM r) (h' : Pl.UpM r') (he : ∀ k, Pl.gotM r k = Pl.gotM r' k) : r = r' := by
  have hp : r.Perm r' := by
    rw [List.perm_ext_iff_of_nodup (up_nodup h) (up_nodup h')]
    intro p
    rw [up_mem h, up_mem h', he]
  have h1 := Pl.allM_all h' hp
  rw [Pl.allM_all h (List.Perm.refl r)] at h1
  exact h1

/-- What the document's map has that was made of pairs. -/
def refM : List PairD → List PairD → List PairD
  | [], m => m
  | p :: t, m => refM t (Pl.putM m p.key p.val)
theorem refM_snoc : ∀ (l : List PairD) (p : PairD) (m : List PairD), refM (l ++ [p]) m = Pl.putM (refM l m) p.key p.val
  | [], _, _ => rfl
  | _ :: t, p, _ => refM_snoc t p _
theorem refM_take {ps : List PairD} {j : Nat} (hj : j < ps.length) (m : List PairD) : refM (ps.take (j + 1)) m = Pl.putM (refM (ps.take j) m) ps[j].key ps[j].val := by
  rw [List.take_add_one, List.getElem?_eq_getElem hj]
  exact refM_snoc _ _ _
theorem refM_len : ∀ (l : List PairD) (m : List PairD), (refM l m).length ≤ m.length + l.length
  | [], _ => Nat.le_refl _
  | p :: t, m => by
    have h1 := refM_len t (Pl.putM m p.key p.val)
    have h2 : (Pl.putM m p.key p.val).length ≤ m.length + 1 := by
      unfold Pl.putM
      rw [List.length_append]
      have := delM_len m p.key
      simp only [List.length_cons, List.length_nil]
      omega
    show (refM t (Pl.putM m p.key p.val)).length ≤ _
    rw [List.length_cons]
    omega
theorem refM_fit : ∀ (l : List PairD) (m : List PairD), FitP l → FitP m → FitP (refM l m)
  | [], _, _, h => h
  | p :: t, m, hl, h => by
    refine refM_fit t _ (fun q hq => hl q (List.mem_cons_of_mem _ hq)) fun q hq => ?_
    unfold Pl.putM at hq
    rw [List.mem_append, List.mem_singleton] at hq
    rcases hq with hq | rfl
    · exact h q (List.mem_filter.1 hq).1
    · exact hl p (List.mem_cons_self ..)
/-- The program's map and the document's. -/
theorem made_good : ∀ (l : List PairD) (ks : List ByteArray) (vs : List Int) (m : List PairD), GoodM ks vs → m.Perm (Pl.zipP ks vs) → GoodM (nMap l (ks, vs)).1 (nMap l (ks, vs)).2 ∧ (refM l m).Perm (Pl.zipP (nMap l (ks, vs)).1 (nMap l (ks, vs)).2)
  | [], _, _, _, h, hp => ⟨h, hp⟩
  | p :: t, ks, vs, m, h, hp => by
    obtain ⟨h1, h2⟩ := h.put p.key p.val
    exact made_good t _ _ _ h1 (h2 m hp)
theorem refM_got (l : List PairD) : ∀ k, Pl.gotM (refM l []) k = Pl.gotM l.reverse k := by
  suffices hs : ∀ l : List PairD, ∀ k, Pl.gotM (refM l.reverse []) k = Pl.gotM l k by
    intro k
    have := hs l.reverse k
    rwa [List.reverse_reverse] at this
  intro l
  induction l with
  | nil => intro k; rfl
  | cons p t ih =>
    intro k
    rw [List.reverse_cons, refM_snoc, gotM_put, ih k]
    rw [show p :: t = [p] ++ t from rfl, gotM_app, gotM_one]
    by_cases h : k = p.key
    · rw [if_pos h, if_pos h.symm]; rfl
    · rw [if_neg h, if_neg (fun q => h q.symm)]; rfl

/-- What a map has that is made from the back, each key once. -/
def bMap : List PairD → List ByteArray × List Int
  | [] => ([], [])
  | p :: t => if Pl.findIs (bMap t).1 p.key.data.toList = true then bMap t else (pKs (bMap t).1 p.key, pVs (bMap t).1 (bMap t).2 p.key p.val)
theorem bMap_len : ∀ l : List PairD, (bMap l).1.length ≤ l.length
  | [] => Nat.le_refl _
  | p :: t => by
    have := bMap_len t
    have h2 := pKs_len (bMap t).1 p.key
    unfold bMap
    rw [List.length_cons]
    split
    · omega
    · simp only []; omega
theorem bMap_good : ∀ l : List PairD, GoodM (bMap l).1 (bMap l).2 ∧ ∀ k, Pl.gotM (Pl.zipP (bMap l).1 (bMap l).2) k = Pl.gotM l.reverse k
  | [] => ⟨good_nil, fun _ => rfl⟩
  | p :: t => by
    obtain ⟨h1, h2⟩ := bMap_good t
    have hgot := h1.get p.key
    unfold mGet Pl.getM at hgot
    unfold bMap
    by_cases hf : Pl.findIs (bMap t).1 p.key.data.toList = true
    · rw [if_pos hf]
      refine ⟨h1, fun k => ?_⟩
      rw [if_pos hf] at hgot
      rw [List.reverse_cons, gotM_app, gotM_one, h2]
      by_cases hk : p.key = k
      · subst hk
        rw [h2] at hgot
        cases hg : Pl.gotM t.reverse p.key with
        | none =>
          rw [hg] at hgot
          have h9 : true = false := congrArg Prod.snd hgot
          cases h9
        | some q => rfl
      · rw [if_neg hk]
        cases Pl.gotM t.reverse k <;> rfl
    · rw [if_neg hf]
      rw [if_neg hf] at hgot
      obtain ⟨h3, h4⟩ := h1.put p.key p.val
      refine ⟨h3, fun k => ?_⟩
      rw [← Pl.gotM_perm h3.rows.uniq (h4 _ (List.Perm.refl _)), gotM_put, List.reverse_cons, gotM_app, gotM_one, h2]
      by_cases hk : k = p.key
      · subst hk
        rw [if_pos rfl, if_pos rfl]
        rw [h2] at hgot
        cases hg : Pl.gotM t.reverse p.key with
        | none => rfl
        | some q =>
          rw [hg] at hgot
          have h9 : false = true := congrArg Prod.snd hgot
          cases h9
      · rw [if_neg hk, if_neg (fun q => hk q.symm)]
        cases Pl.gotM t.reverse k <;> rfl
/-- From the front, and from the back: the same. -/
theorem last_law (ps : List PairD) : Pl.zipP (nMap ps ([], [])).1 (nMap ps ([], [])).2 = Pl.allM (refM ps []) (refM ps []).length ∧ Pl.zipP (bMap ps).1 (bMap ps).2 = Pl.allM (refM ps []) (refM ps []).length := by
  obtain ⟨h1, h2⟩ := made_good ps [] [] [] good_nil (List.Perm.refl _)
  obtain ⟨h3, h4⟩ := bMap_good ps
  have e1 := Pl.allM_all h1.rows h2
  refine ⟨e1.symm, ?_⟩
  rw [e1]
  refine up_ext h3.rows h1.rows fun k => ?_
  rw [h4, ← Pl.gotM_perm h1.rows.uniq h2, refM_got]

end Go.Proofs.Ytggjlnjpokdfpaa
