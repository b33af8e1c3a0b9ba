/- The plain law of BookTurns. -/
import Derived.Test.YtggjlnjpokdfpaaBook0
namespace Go.Proofs.Ytggjlnjpokdfpaa
open Go.RowKit

theorem ins_cutM {α : Type} (xs : List α) (k : Nat) (x : α) (h : k ≤ xs.length) : (ins xs k x).eraseIdx k = xs := by
  unfold ins
  rw [List.eraseIdx_append_of_length_le (by rw [List.length_take]; omega), List.length_take, Nat.min_eq_left h, Nat.sub_self, List.eraseIdx_cons_zero, List.take_append_drop]
theorem find_thereM {ss : List ByteArray} {k : List UInt8} {i : Nat} (h : Pl.rises ss = true) (hi : i < ss.length) (e : Pl.tx ss i = k) : Pl.findIs ss k = true ∧ Pl.findAt ss k = i := by
  have h1 := (Pl.findIs_iff h k).2 ⟨i, hi, e⟩
  refine ⟨h1, ?_⟩
  obtain ⟨s1, s2⟩ := Pl.findAt_spec h k
  unfold Pl.findIs at h1
  rw [Bool.and_eq_true, decide_eq_true_iff, beq_iff_eq] at h1
  rcases Nat.lt_trichotomy (Pl.findAt ss k) i with g | g | g
  · have := Pl.rises_lt h _ _ g hi
    rw [e, h1.2, Pl.ls_irrefl] at this; cases this
  · exact g
  · have := s1 i g
    rw [e, Pl.ls_irrefl] at this; cases this
theorem put_del {ks : List ByteArray} {vs : List Int} (h : GoodM ks vs) (k : ByteArray) (v : Int) : dKs (pKs ks k) k = dKs ks k ∧ dVs (pKs ks k) (pVs ks vs k v) k = dVs ks vs k := by
  have hle := Pl.findAt_le ks k.data.toList
  cases hf : Pl.findIs ks k.data.toList
  · have hp : pKs ks k = ins ks (Pl.findAt ks k.data.toList) k := by unfold pKs; rw [hf, if_neg Bool.false_ne_true]
    have hq : pVs ks vs k v = ins vs (Pl.findAt ks k.data.toList) v := by unfold pVs; rw [hf, if_neg Bool.false_ne_true]
    have hil : Pl.findAt ks k.data.toList < (ins ks (Pl.findAt ks k.data.toList) k).length := by rw [insl _ hle]; omega
    have hat : (ins ks (Pl.findAt ks k.data.toList) k)[Pl.findAt ks k.data.toList]? = some k := by
      unfold ins
      rw [List.getElem?_append_right (by rw [List.length_take]; omega), List.length_take, Nat.min_eq_left hle, Nat.sub_self]
      rfl
    have htx : Pl.tx (ins ks (Pl.findAt ks k.data.toList) k) (Pl.findAt ks k.data.toList) = k.data.toList := by
      rw [Pl.tx_eq _ _ hil]
      rw [List.getElem?_eq_getElem hil] at hat
      injection hat with hat
      rw [hat]
    obtain ⟨f1, f2⟩ := find_thereM (ups_insM h.up hf) hil htx
    rw [hp, hq]
    unfold dKs dVs
    rw [f1, hf, if_pos rfl, if_neg Bool.false_ne_true, if_pos rfl, if_neg Bool.false_ne_true, f2, ins_cutM _ _ _ hle, ins_cutM _ _ _ (by rw [← h.len]; exact hle)]
    exact ⟨rfl, rfl⟩
  · have hp : pKs ks k = ks := by unfold pKs; rw [hf, if_pos rfl]
    have hq : pVs ks vs k v = vs.set (Pl.findAt ks k.data.toList) v := by unfold pVs; rw [hf, if_pos rfl]
    rw [hp, hq]
    refine ⟨rfl, ?_⟩
    unfold dVs
    rw [hf, if_pos rfl, if_pos rfl, List.eraseIdx_set_eq]
theorem del_del {ks : List ByteArray} {vs : List Int} (h : GoodM ks vs) (k : ByteArray) : dKs (dKs ks k) k = dKs ks k ∧ dVs (dKs ks k) (dVs ks vs k) k = dVs ks vs k := by
  obtain ⟨g, hp⟩ := h.del k
  have hp := hp _ (List.Perm.refl _)
  have hf : Pl.findIs (dKs ks k) k.data.toList = false := by
    cases hf : Pl.findIs (dKs ks k) k.data.toList with
    | false => rfl
    | true =>
      have hlt := findIs_lt hf
      have hk := findIs_key hf
      have hl := Pl.zipP_len g.len
      have hm : (Pl.zipP (dKs ks k) (dVs ks vs k))[Pl.findAt (dKs ks k) k.data.toList]'(by omega) ∈ Pl.zipP (dKs ks k) (dVs ks vs k) := List.getElem_mem _
      rw [Pl.zipP_at _ hlt (by rw [← g.len]; exact hlt)] at hm
      have := hp.mem_iff.2 hm
      unfold Pl.delM at this
      rw [List.mem_filter] at this
      rw [hk] at this
      simp at this
  constructor
  · generalize dKs ks k = q at hf ⊢
    unfold dKs
    rw [if_neg (by rw [hf]; exact Bool.false_ne_true)]
  · generalize dKs ks k = q at hf ⊢
    generalize dVs ks vs k = v
    unfold dVs
    rw [if_neg (by rw [hf]; exact Bool.false_ne_true)]
/-- An operation that does not turn a map leaves it as it was; one that does turns its own key alone. -/
theorem do_turns {ks : List ByteArray} {vs : List Int} (h : GoodM ks vs) (o : OpD) :
    (turnsB o (doD ks vs o).1 = false → (doD ks vs o).2.1 = ks ∧ (doD ks vs o).2.2 = vs) ∧
    (turnsB o (doD ks vs o).1 = true → dKs (doD ks vs o).2.1 o.key = dKs ks o.key ∧ dVs (doD ks vs o).2.1 (doD ks vs o).2.2 o.key = dVs ks vs o.key) := by
  have hp := put_del h o.key (o.val : Int)
  have hd := del_del h o.key
  unfold doD
  cases hob : opB o
  · rw [if_neg Bool.false_ne_true]
    exact ⟨fun _ => ⟨rfl, rfl⟩, fun q => by simp [turnsB, ansV] at q⟩
  · rw [if_pos rfl]
    have hk := opB_kind hob
    unfold readsB
    rw [hob, Bool.true_and]
    rcases (show (o.kind = 1 ∨ 6 ≤ o.kind) ∨ o.kind = 2 ∨ o.kind = 3 ∨ o.kind = 4 ∨ o.kind = 5 by omega) with e | e | e | e | e
    · rw [if_pos (decide_eq_true e)]
      refine ⟨fun _ => ⟨rfl, rfl⟩, fun q => ?_⟩
      unfold turnsB at q
      rw [decide_eq_false (p := o.kind = 3) (by omega), decide_eq_false (p := o.kind = 2) (by omega), decide_eq_false (p := o.kind = 4) (by omega), decide_eq_false (p := o.kind = 5) (by omega)] at q
      simp at q
    all_goals
      rw [if_neg (by rw [decide_eq_true_iff]; omega)]
      unfold writeD turnsB
      rw [e]
      cases hb : (mGet ks vs o.key).2
    · simp [ansV, hp]
    · simp [ansV]
    · simp [ansV, hp]
    · simp [ansV, hp]
    · simp [ansV]
    · simp [ansV, hd]
    · simp [ansV]
    · by_cases hv : (mGet ks vs o.key).1 = (o.val : Int)
      · simp [ansV, hv, hd]
      · simp [ansV, hv]
theorem allD_good : ∀ (xs : List OpD) (s : List AnsI × List ByteArray × List Int), GoodM s.2.1 s.2.2 → GoodM (xs.foldl (fun s o => (s.1 ++ [(doD s.2.1 s.2.2 o).1], (doD s.2.1 s.2.2 o).2.1, (doD s.2.1 s.2.2 o).2.2)) s).2.1 (xs.foldl (fun s o => (s.1 ++ [(doD s.2.1 s.2.2 o).1], (doD s.2.1 s.2.2 o).2.1, (doD s.2.1 s.2.2 o).2.2)) s).2.2
  | [], _, h => h
  | o :: t, s, h => by
    rw [List.foldl_cons]
    exact allD_good t _ (do_same h (List.Perm.refl _) o).2.1

end Go.Proofs.Ytggjlnjpokdfpaa
