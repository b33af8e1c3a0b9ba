/- Contracts of the reference of package sip: its eye. -/
import Derived.Test.YthbafbgnclpbpaaFine
import Derived.Test.YthbafbgnclpbpaaPlVal
namespace Go.Proofs.Ythbafbgnclpbpaa
open Go.RowKit

/-- The reference's eye: its variable is block ep, the bytes that are left lie in block sb. -/
def REye (w : World) (ep : Nat) (sb : Option Nat) (l : List Nat) (f : Int) : Prop :=
  sb ≠ some ep ∧ ∃ A c, w.heap[ep]? = some (.cells #[.slice A l.length c, .int .i64 f] 78 (0, 0)) ∧ l.length ≤ c ∧
    (0 < l.length → ∃ b off, A = some ⟨b, off, none⟩ ∧ sb = some b ∧ b < w.heap.size ∧ ∀ (j : Nat) (u : Value), (u8s l)[j]? = some u → w.cell? ⟨b, off + j, none⟩ = some u)
theorem REye.lt {w : World} {ep : Nat} {sb : Option Nat} {l : List Nat} {f : Int} (h : REye w ep sb l f) : ep < w.heap.size := by
  obtain ⟨_, A, c, hb, _⟩ := h
  exact (Array.getElem?_eq_some_iff.1 hb).1
theorem REye.off {S : Nat → Prop} {w w' : World} {ep : Nat} {sb : Option Nat} {l : List Nat} {f : Int} (h : REye w ep sb l f) (hb : Off S w w') (h1 : ¬ S ep) (h2 : ∀ b, sb = some b → ¬ S b) : REye w' ep sb l f := by
  have hlt := h.lt
  obtain ⟨hne, A, c, hbp, hc, hr⟩ := h
  refine ⟨hne, A, c, (hb.block ep hlt h1).trans hbp, hc, fun h0 => ?_⟩
  obtain ⟨b, off, e, hs, hbl, hcell⟩ := hr h0
  exact ⟨b, off, e, hs, Nat.lt_of_lt_of_le hbl hb.size, fun j u hu => (hb.cell (p := ⟨b, off + j, none⟩) hbl (h2 b hs)).trans (hcell j u hu)⟩
theorem REye.below {w w' : World} {ep : Nat} {sb : Option Nat} {l : List Nat} {f : Int} (h : REye w ep sb l f) (hb : Below w.heap.size w w') : REye w' ep sb l f := h.off (Off.of_below hb (fun _ => False)) (fun q => q) (fun _ _ q => q)

/-- What a call of the reference's eye leaves. -/
def RTo (v : Value) (w : World) (ep : Nat) (sb : Option Nat) (l : List Nat) (f : Int) (e : Ending) (w' : World) : Prop :=
  e = .returned v ∧ REye w' ep sb l f ∧ Off (fun k => k = ep) w w'
theorem reye_set {w : World} {ep : Nat} {A : Option Addr} {n c : Nat} {f : Int} (hb : w.heap[ep]? = some (.cells #[.slice A n c, .int .i64 f] 78 (0, 0))) :
    w.cell? ⟨ep, 0, none⟩ = some (.slice A n c) ∧ w.cell? ⟨ep, 1, none⟩ = some (.int .i64 f) ∧ w.frozen? ⟨ep, 0, none⟩ = false ∧ w.frozen? ⟨ep, 1, none⟩ = false := by
  refine ⟨by simp [World.cell?, hb], by simp [World.cell?, hb], by simp [World.frozen?, hb], by simp [World.frozen?, hb]⟩
theorem reye_nil {w : World} {ep : Nat} {A : Option Addr} {n c : Nat} {f : Int} {sb : Option Nat} (hne : sb ≠ some ep) (hb : w.heap[ep]? = some (.cells #[.slice A n c, .int .i64 f] 78 (0, 0))) (g : Int) :
    REye ((w.setCell ⟨ep, 1, none⟩ (.int .i64 g)).setCell ⟨ep, 0, none⟩ (.slice none 0 0)) ep sb [] g ∧ Off (fun k => k = ep) w ((w.setCell ⟨ep, 1, none⟩ (.int .i64 g)).setCell ⟨ep, 0, none⟩ (.slice none 0 0)) := by
  refine ⟨⟨hne, none, 0, ?_, Nat.le_refl _, fun h => absurd h (Nat.lt_irrefl 0)⟩, (Off.of_setCell w ⟨ep, 1, none⟩ _).trans (Off.of_setCell _ ⟨ep, 0, none⟩ _) (fun _ _ h => h)⟩
  simp [World.setCell, Array.getElem?_modify, hb]
theorem reye_cut {w : World} {ep : Nat} {sb : Option Nat} {l : List Nat} {A : Option Addr} {c k : Nat} {f : Int} (hne : sb ≠ some ep) (hb : w.heap[ep]? = some (.cells #[.slice A l.length c, .int .i64 f] 78 (0, 0)))
    (hr : 0 < l.length → ∃ b off, A = some ⟨b, off, none⟩ ∧ sb = some b ∧ b < w.heap.size ∧ ∀ (j : Nat) (u : Value), (u8s l)[j]? = some u → w.cell? ⟨b, off + j, none⟩ = some u) (hk : k ≤ l.length) (A' : Option Addr) (C' : Nat) (hC : l.length - k ≤ C') (hA : 0 < l.length - k → A' = A.map (·.add k)) :
    REye (w.setCell ⟨ep, 0, none⟩ (.slice A' (l.length - k) C')) ep sb (l.drop k) f ∧ Off (fun q => q = ep) w (w.setCell ⟨ep, 0, none⟩ (.slice A' (l.length - k) C')) := by
  have ho := Off.of_setCell w ⟨ep, 0, none⟩ (.slice A' (l.length - k) C')
  refine ⟨⟨hne, A', C', ?_, by rw [List.length_drop]; exact hC, fun h => ?_⟩, ho⟩
  · simp [World.setCell, Array.getElem?_modify, hb]
  · rw [List.length_drop] at h
    obtain ⟨b, off, e, hs, hbl, hcell⟩ := hr (by omega)
    refine ⟨b, off + k, by rw [hA h, e]; simp [Addr.add_lit], hs, Nat.lt_of_lt_of_le hbl ho.size, fun j u hu => ?_⟩
    rw [ho.cell (p := ⟨b, off + k + j, none⟩) hbl (fun h => hne (by rw [hs]; exact congrArg some h)), Nat.add_assoc]
    exact hcell (k + j) u (by rw [← hu, u8s, u8s, List.map_drop, List.getElem?_drop])

theorem rspoil_any (ep : Nat) (sb : Option Nat) (l : List Nat) (f g : Int) (w : World) (h : REye w ep sb l f) :
    Calls Try.prog 108 #[.pointer (some ⟨ep, 0, none⟩), .int .i64 g] w (RTo (.int .u64 0) w ep sb [] g) := by
  obtain ⟨hne, A, c, hb, hc, hr⟩ := id h
  obtain ⟨c0, c1, z0, z1⟩ := reye_set hb
  have Hn := Lib.hid (reye_nil hne hb g)
  have c0' : (w.setCell ⟨ep, 1, none⟩ (.int .i64 g)).cell? ⟨ep, 0, none⟩ = some (.slice A l.length c) := by simp [World.cell?, World.setCell, Array.getElem?_modify, hb]
  have z0' : (w.setCell ⟨ep, 1, none⟩ (.int .i64 g)).frozen? ⟨ep, 0, none⟩ = false := by simp [World.frozen?, World.setCell, Array.getElem?_modify, hb]
  clear hb hc hr h hne
  go_enter Try.func108, Try.ntmps108
  go_wp2_with fail
  go_ret
  exact ⟨rfl, Hn.out⟩

theorem eyeUp_bad {top : Nat} {l : List Nat} (h : scan 0 0 l = .bad) : eyeUp top l 0 = (0, [], 10) := by simp [eyeUp, eyeDig, h]
theorem eyeUp_short {top : Nat} {l : List Nat} (h : scan 0 0 l = .short) : eyeUp top l 0 = (0, [], 11) := by simp [eyeUp, eyeDig, h]
theorem eyeUp_more {top n k : Nat} {l : List Nat} (h : scan 0 0 l = .got n k) (ht : top < n) : eyeUp top l 0 = (0, [], 10) := by simp [eyeUp, eyeDig, h, ht]
theorem eyeUp_got {top n k : Nat} {l : List Nat} (h : scan 0 0 l = .got n k) (ht : ¬ top < n) : eyeUp top l 0 = (n, l.drop k, 0) := by simp [eyeUp, eyeDig, h, ht]
theorem eyeUp_fault {top : Nat} {l : List Nat} {f : Int} (h : f ≠ 0) : eyeUp top l f = (0, l, f) := by simp [eyeUp, eyeDig, h]

set_option maxRecDepth 100000 in
set_option maxHeartbeats 4000000 in
theorem rread_any (ep : Nat) (sb : Option Nat) (l : List Nat) (f : Int) (top : Nat) (w : World) (h : REye w ep sb l f) (hx : ∀ x ∈ l, x < 256) (hl : l.length ≤ 1000000) (htop : top < 18446744073709551616) :
    Calls Try.prog 96 #[.pointer (some ⟨ep, 0, none⟩), .int .u64 (top : Int)] w (RTo (.int .u64 ((eyeUp top l f).1 : Int)) w ep sb (eyeUp top l f).2.1 (eyeUp top l f).2.2) := by
  obtain ⟨hne, A, c, hb, hc, hr⟩ := id h
  obtain ⟨c0, c1, z0, z1⟩ := reye_set hb
  by_cases hf : f = 0
  · subst hf
    have H := Lib.hid (And.intro h (And.intro hne (And.intro hb (And.intro hc (And.intro hr hx)))))
    clear h hne hb hc hr hx
    go_enter Try.func96, Try.ntmps96
    go_wp2_with fail
    go_loopw [5] (fun i wr => ∃ (j : Nat), i = .int .i64 j ∧ wr = w ∧ Hid (j ≤ 9 ∧ j ≤ l.length ∧ scan 0 0 l = scan j (dval (l.take j)) (l.drop j))) (fun i _ => 10 - (intOf i).toNat)
    case atStart => exact ⟨0, rfl, rfl, by omega, by omega, by simp [dval]⟩
    case round =>
      obtain ⟨j, rfl, rfl, HJ⟩ := hrel
      by_cases hend : j < l.length
      · have hlt' : (j : Int) < (l.length : Int) := by omega
        obtain ⟨b, off, rfl, hs, hbl, hcell⟩ := H.out.2.2.2.2.1 (by omega)
        have Hs := Lib.hid hs
        have hcj := hcell j _ (u8s_at l j hend)
        have HCL := Lib.hid hcell
        clear hs hcell
        have hxj := H.out.2.2.2.2.2 _ (List.getElem_mem hend)
        generalize hq : l[j] = x at hcj hxj
        have HQ := Lib.hid hq
        clear hq
        by_cases h9 : j < 9
        · have h9' : (j : Int) < 9 := by omega
          have h9n : ¬ (j : Int) = 9 := by omega
          have h9b : ((j : Int) == 9) = false := by rw [beq_eq_false_iff_ne]; omega
          by_cases hbig : 128 ≤ x
          · have s4 : (127 : Int) < (x : Int) := by omega
            have HS := Lib.hid (HJ.out.2.2.trans (scan_step hend h9 (by rw [HQ.out]; exact hbig)))
            clear hbig hxj
            go_wp2_with fail
            go_roundw
            case rel => exact ⟨j + 1, by go_num, trivial, by omega, by omega, HS.out⟩
            case measure => simp [intOf]; omega
          · have s4 : ¬ (127 : Int) < (x : Int) := by omega
            have hx128 : x < 128 := by omega
            have hnb : ¬ (128 ≤ l[j] ∧ j < 9) := by rw [HQ.out]; omega
            have HNB := Lib.hid hnb
            clear hbig hnb
            by_cases hj0 : 0 < j
            · by_cases hx0 : x = 0
              · subst hx0
                have HS := Lib.hid (eyeUp_bad (top := top) (HJ.out.2.2.trans (scan_bad hend HNB.out (by rw [HQ.out]; exact .inl ⟨hj0, rfl⟩))))
                go_wp2_with fail
                refine (rspoil_any ep sb l 0 10 _ H.out.1).mono ?_
                rintro e w2 ⟨rfl, hE⟩
                have HE := Lib.hid hE
                clear hE
                go_wp2_with fail
                go_ret
                rw [HS.out]
                exact ⟨rfl, HE.out⟩
              · have hx1 : ((x : Int) == 0) = false := by rw [beq_eq_false_iff_ne]; omega
                have hfit := dval_fits hend HJ.out.1 HNB.out (by rw [HQ.out]; omega)
                have hsg := HJ.out.2.2.trans (scan_good hend HNB.out (by rw [HQ.out]; omega))
                have hml : (l.take (j + 1)).length = j + 1 := by rw [List.length_take]; omega
                have hmq : ∀ (q : Nat) (h1 : q < (l.take (j + 1)).length) (h2 : q < l.length), (l.take (j + 1))[q] = l[q] := fun q h1 h2 => by rw [List.getElem_take]
                generalize l.take (j + 1) = m at hfit hsg hml hmq
                have HS := Lib.hid hsg
                have HM := Lib.hid (And.intro hml hmq)
                have HFT := Lib.hid hfit
                clear hsg hmq hfit
                go_wp2_with fail
                go_loopw [7, 8] (fun n i w' => w' = wr ∧ ((∃ q : Nat, i = .int .i64 q ∧ n = .int .u64 ((dval (m.drop (q + 1)) : Nat) : Int) ∧ q ≤ j) ∨ (i = .int .i64 (-1) ∧ n = .int .u64 ((dval m : Nat) : Int)))) (fun _ i _ => (intOf i + 1).toNat)
                case atStart => exact ⟨rfl, .inl ⟨j, rfl, by rw [List.drop_eq_nil_of_le (by omega)]; rfl, Nat.le_refl _⟩⟩
                case round =>
                  obtain ⟨rfl, hq⟩ := hrel
                  rcases hq with ⟨q, rfl, rfl, hqj⟩ | ⟨rfl, rfl⟩
                  · have hql : q < m.length := by omega
                    have hq2 : q < l.length := by omega
                    have hdd := dval_drop hql
                    have hdl := dval_drop_le m q
                    have hft := HFT.out
                    rw [HM.out.2 q hql hq2] at hdd
                    have hcq := HCL.out q _ (u8s_at l q hq2)
                    have hyl := H.out.2.2.2.2.2 _ (List.getElem_mem hq2)
                    generalize l[q] = y at hdd hcq hyl
                    have hq0 : (0 : Int) ≤ (q : Int) := by omega
                    have hql2 : (q : Int) < (l.length : Int) := by omega
                    have HN := Lib.hid (And.intro hdd (And.intro hdl hft))
                    clear hdd hdl hft
                    generalize dval (m.drop (q + 1)) = nn at HN ⊢
                    go_wp2_with fail
                    go_roundw
                    case rel =>
                      refine ⟨trivial, ?_⟩
                      have hv : IntKind.u64.wrap (IntKind.u64.wrap ((nn : Int) * 128) + (y : Int) % 128) = ((dval (m.drop q) : Nat) : Int) := by
                        rw [HN.out.1, IntKind.wrap_u64, IntKind.wrap_u64]
                        have := HN.out
                        omega
                      by_cases hz : q = 0
                      · subst hz
                        right
                        exact ⟨congrArg (Value.int .i64) (by omega), congrArg (Value.int .u64) (hv.trans (by rw [List.drop_zero]))⟩
                      · left
                        obtain ⟨q', rfl⟩ : ∃ q', q = q' + 1 := ⟨q - 1, by omega⟩
                        exact ⟨q', congrArg (Value.int .i64) (by omega), congrArg (Value.int .u64) hv, by omega⟩
                    case measure => simp [intOf]
                  · by_cases ht : top < dval m
                    · have ht' : (top : Int) < ((dval m : Nat) : Int) := by omega
                      have HU := Lib.hid (eyeUp_more (top := top) HS.out ht)
                      go_wp2_with fail
                      refine (rspoil_any ep sb l 0 10 _ H.out.1).mono ?_
                      rintro e w2 ⟨rfl, hE⟩
                      have HE := Lib.hid hE
                      clear hE
                      go_wp2_with fail
                      go_ret
                      rw [HU.out]
                      exact ⟨rfl, HE.out⟩
                    · have ht' : ¬ (top : Int) < ((dval m : Nat) : Int) := by omega
                      have HU := Lib.hid (eyeUp_got (top := top) HS.out ht)
                      have g3 : (((j : Nat) : Int) + 1).toNat = j + 1 := by omega
                      have g4 : ((j : Nat) : Int) + 1 ≤ (l.length : Int) := by omega
                      have g5 : (l.length : Int) ≤ (c : Int) := by have := H.out.2.2.2.1; omega
                      clear ht
                      by_cases hcc : c = j + 1
                      · go_wp2_with fail
                        go_ret
                        rw [HU.out]
                        exact ⟨rfl, reye_cut (k := j + 1) H.out.2.1 H.out.2.2.1 H.out.2.2.2.2.1 hend _ _ (by omega) (fun h => absurd h (by omega))⟩
                      · go_wp2_with fail
                        go_ret
                        rw [HU.out]
                        exact ⟨rfl, reye_cut (k := j + 1) H.out.2.1 H.out.2.2.1 H.out.2.2.2.2.1 hend _ _ (by have := H.out.2.2.2.1; omega) (fun _ => rfl)⟩
            · have hfit := dval_fits hend HJ.out.1 HNB.out (by rw [HQ.out]; omega)
              have hsg := HJ.out.2.2.trans (scan_good hend HNB.out (by rw [HQ.out]; omega))
              have hml : (l.take (j + 1)).length = j + 1 := by rw [List.length_take]; omega
              have hmq : ∀ (q : Nat) (h1 : q < (l.take (j + 1)).length) (h2 : q < l.length), (l.take (j + 1))[q] = l[q] := fun q h1 h2 => by rw [List.getElem_take]
              generalize l.take (j + 1) = m at hfit hsg hml hmq
              have HS := Lib.hid hsg
              have HM := Lib.hid (And.intro hml hmq)
              have HFT := Lib.hid hfit
              clear hsg hmq hfit
              go_wp2_with fail
              go_loopw [7, 8] (fun n i w' => w' = wr ∧ ((∃ q : Nat, i = .int .i64 q ∧ n = .int .u64 ((dval (m.drop (q + 1)) : Nat) : Int) ∧ q ≤ j) ∨ (i = .int .i64 (-1) ∧ n = .int .u64 ((dval m : Nat) : Int)))) (fun _ i _ => (intOf i + 1).toNat)
              case atStart => exact ⟨rfl, .inl ⟨j, rfl, by rw [List.drop_eq_nil_of_le (by omega)]; rfl, Nat.le_refl _⟩⟩
              case round =>
                obtain ⟨rfl, hq⟩ := hrel
                rcases hq with ⟨q, rfl, rfl, hqj⟩ | ⟨rfl, rfl⟩
                · have hql : q < m.length := by omega
                  have hq2 : q < l.length := by omega
                  have hdd := dval_drop hql
                  have hdl := dval_drop_le m q
                  have hft := HFT.out
                  rw [HM.out.2 q hql hq2] at hdd
                  have hcq := HCL.out q _ (u8s_at l q hq2)
                  have hyl := H.out.2.2.2.2.2 _ (List.getElem_mem hq2)
                  generalize l[q] = y at hdd hcq hyl
                  have hq0 : (0 : Int) ≤ (q : Int) := by omega
                  have hql2 : (q : Int) < (l.length : Int) := by omega
                  have HN := Lib.hid (And.intro hdd (And.intro hdl hft))
                  clear hdd hdl hft
                  generalize dval (m.drop (q + 1)) = nn at HN ⊢
                  go_wp2_with fail
                  go_roundw
                  case rel =>
                    refine ⟨trivial, ?_⟩
                    have hv : IntKind.u64.wrap (IntKind.u64.wrap ((nn : Int) * 128) + (y : Int) % 128) = ((dval (m.drop q) : Nat) : Int) := by
                      rw [HN.out.1, IntKind.wrap_u64, IntKind.wrap_u64]
                      have := HN.out
                      omega
                    by_cases hz : q = 0
                    · subst hz
                      right
                      exact ⟨congrArg (Value.int .i64) (by omega), congrArg (Value.int .u64) (hv.trans (by rw [List.drop_zero]))⟩
                    · left
                      obtain ⟨q', rfl⟩ : ∃ q', q = q' + 1 := ⟨q - 1, by omega⟩
                      exact ⟨q', congrArg (Value.int .i64) (by omega), congrArg (Value.int .u64) hv, by omega⟩
                  case measure => simp [intOf]
                · by_cases ht : top < dval m
                  · have ht' : (top : Int) < ((dval m : Nat) : Int) := by omega
                    have HU := Lib.hid (eyeUp_more (top := top) HS.out ht)
                    go_wp2_with fail
                    refine (rspoil_any ep sb l 0 10 _ H.out.1).mono ?_
                    rintro e w2 ⟨rfl, hE⟩
                    have HE := Lib.hid hE
                    clear hE
                    go_wp2_with fail
                    go_ret
                    rw [HU.out]
                    exact ⟨rfl, HE.out⟩
                  · have ht' : ¬ (top : Int) < ((dval m : Nat) : Int) := by omega
                    have HU := Lib.hid (eyeUp_got (top := top) HS.out ht)
                    have g3 : (((j : Nat) : Int) + 1).toNat = j + 1 := by omega
                    have g4 : ((j : Nat) : Int) + 1 ≤ (l.length : Int) := by omega
                    have g5 : (l.length : Int) ≤ (c : Int) := by have := H.out.2.2.2.1; omega
                    clear ht
                    by_cases hcc : c = j + 1
                    · go_wp2_with fail
                      go_ret
                      rw [HU.out]
                      exact ⟨rfl, reye_cut (k := j + 1) H.out.2.1 H.out.2.2.1 H.out.2.2.2.2.1 hend _ _ (by omega) (fun h => absurd h (by omega))⟩
                    · go_wp2_with fail
                      go_ret
                      rw [HU.out]
                      exact ⟨rfl, reye_cut (k := j + 1) H.out.2.1 H.out.2.2.1 H.out.2.2.2.2.1 hend _ _ (by have := H.out.2.2.2.1; omega) (fun _ => rfl)⟩
        · have hj9 : j = 9 := by have := HJ.out.1; omega
          subst hj9
          have hnb : ¬ (128 ≤ l[9] ∧ 9 < 9) := fun e => absurd e.2 (by omega)
          have HNB := Lib.hid hnb
          clear hnb
          by_cases hx0 : x = 0
          · subst hx0
            have HS := Lib.hid (eyeUp_bad (top := top) (HJ.out.2.2.trans (scan_bad hend HNB.out (by rw [HQ.out]; exact .inl ⟨by omega, rfl⟩))))
            go_wp2_with fail
            refine (rspoil_any ep sb l 0 10 _ H.out.1).mono ?_
            rintro e w2 ⟨rfl, hE⟩
            have HE := Lib.hid hE
            clear hE
            go_wp2_with fail
            go_ret
            rw [HS.out]
            exact ⟨rfl, HE.out⟩
          · have hx1 : ((x : Int) == 0) = false := by rw [beq_eq_false_iff_ne]; omega
            by_cases hx2 : 1 < x
            · have hx3 : (1 : Int) < (x : Int) := by omega
              have HS := Lib.hid (eyeUp_bad (top := top) (HJ.out.2.2.trans (scan_bad hend HNB.out (by rw [HQ.out]; exact .inr ⟨rfl, hx2⟩))))
              go_wp2_with fail
              refine (rspoil_any ep sb l 0 10 _ H.out.1).mono ?_
              rintro e w2 ⟨rfl, hE⟩
              have HE := Lib.hid hE
              clear hE
              go_wp2_with fail
              go_ret
              rw [HS.out]
              exact ⟨rfl, HE.out⟩
            · have hx3 : ¬ (1 : Int) < (x : Int) := by omega
              have hfit := dval_fits hend HJ.out.1 HNB.out (by rw [HQ.out]; omega)
              have hsg := HJ.out.2.2.trans (scan_good hend HNB.out (by rw [HQ.out]; omega))
              have hml : (l.take (9 + 1)).length = 9 + 1 := by rw [List.length_take]; omega
              have hmq : ∀ (q : Nat) (h1 : q < (l.take (9 + 1)).length) (h2 : q < l.length), (l.take (9 + 1))[q] = l[q] := fun q h1 h2 => by rw [List.getElem_take]
              generalize l.take (9 + 1) = m at hfit hsg hml hmq
              have HS := Lib.hid hsg
              have HM := Lib.hid (And.intro hml hmq)
              have HFT := Lib.hid hfit
              clear hsg hmq hfit
              go_wp2_with fail
              go_loopw [7, 8] (fun n i w' => w' = wr ∧ ((∃ q : Nat, i = .int .i64 q ∧ n = .int .u64 ((dval (m.drop (q + 1)) : Nat) : Int) ∧ q ≤ 9) ∨ (i = .int .i64 (-1) ∧ n = .int .u64 ((dval m : Nat) : Int)))) (fun _ i _ => (intOf i + 1).toNat)
              case atStart => exact ⟨rfl, .inl ⟨9, rfl, by rw [List.drop_eq_nil_of_le (by omega)]; rfl, Nat.le_refl _⟩⟩
              case round =>
                obtain ⟨rfl, hq⟩ := hrel
                rcases hq with ⟨q, rfl, rfl, hqj⟩ | ⟨rfl, rfl⟩
                · have hql : q < m.length := by omega
                  have hq2 : q < l.length := by omega
                  have hdd := dval_drop hql
                  have hdl := dval_drop_le m q
                  have hft := HFT.out
                  rw [HM.out.2 q hql hq2] at hdd
                  have hcq := HCL.out q _ (u8s_at l q hq2)
                  have hyl := H.out.2.2.2.2.2 _ (List.getElem_mem hq2)
                  generalize l[q] = y at hdd hcq hyl
                  have hq0 : (0 : Int) ≤ (q : Int) := by omega
                  have hql2 : (q : Int) < (l.length : Int) := by omega
                  have HN := Lib.hid (And.intro hdd (And.intro hdl hft))
                  clear hdd hdl hft
                  generalize dval (m.drop (q + 1)) = nn at HN ⊢
                  go_wp2_with fail
                  go_roundw
                  case rel =>
                    refine ⟨trivial, ?_⟩
                    have hv : IntKind.u64.wrap (IntKind.u64.wrap ((nn : Int) * 128) + (y : Int) % 128) = ((dval (m.drop q) : Nat) : Int) := by
                      rw [HN.out.1, IntKind.wrap_u64, IntKind.wrap_u64]
                      have := HN.out
                      omega
                    by_cases hz : q = 0
                    · subst hz
                      right
                      exact ⟨congrArg (Value.int .i64) (by omega), congrArg (Value.int .u64) (hv.trans (by rw [List.drop_zero]))⟩
                    · left
                      obtain ⟨q', rfl⟩ : ∃ q', q = q' + 1 := ⟨q - 1, by omega⟩
                      exact ⟨q', congrArg (Value.int .i64) (by omega), congrArg (Value.int .u64) hv, by omega⟩
                  case measure => simp [intOf]
                · by_cases ht : top < dval m
                  · have ht' : (top : Int) < ((dval m : Nat) : Int) := by omega
                    have HU := Lib.hid (eyeUp_more (top := top) HS.out ht)
                    go_wp2_with fail
                    refine (rspoil_any ep sb l 0 10 _ H.out.1).mono ?_
                    rintro e w2 ⟨rfl, hE⟩
                    have HE := Lib.hid hE
                    clear hE
                    go_wp2_with fail
                    go_ret
                    rw [HU.out]
                    exact ⟨rfl, HE.out⟩
                  · have ht' : ¬ (top : Int) < ((dval m : Nat) : Int) := by omega
                    have HU := Lib.hid (eyeUp_got (top := top) HS.out ht)
                    have g3 : (((9 : Nat) : Int) + 1).toNat = 9 + 1 := by omega
                    have g4 : ((9 : Nat) : Int) + 1 ≤ (l.length : Int) := by omega
                    have g5 : (l.length : Int) ≤ (c : Int) := by have := H.out.2.2.2.1; omega
                    clear ht
                    by_cases hcc : c = 9 + 1
                    · go_wp2_with fail
                      go_ret
                      rw [HU.out]
                      exact ⟨rfl, reye_cut (k := 9 + 1) H.out.2.1 H.out.2.2.1 H.out.2.2.2.2.1 hend _ _ (by omega) (fun h => absurd h (by omega))⟩
                    · go_wp2_with fail
                      go_ret
                      rw [HU.out]
                      exact ⟨rfl, reye_cut (k := 9 + 1) H.out.2.1 H.out.2.2.1 H.out.2.2.2.2.1 hend _ _ (by have := H.out.2.2.2.1; omega) (fun _ => rfl)⟩
      · have hlt' : ¬ (j : Int) < (l.length : Int) := by omega
        have HS := Lib.hid (eyeUp_short (top := top) (HJ.out.2.2.trans (scan_none (by omega))))
        go_wp2_with fail
        refine (rspoil_any ep sb l 0 11 _ H.out.1).mono ?_
        rintro e w2 ⟨rfl, hE⟩
        have HE := Lib.hid hE
        clear hE
        go_wp2_with fail
        go_ret
        rw [HS.out]
        exact ⟨rfl, HE.out⟩
  · rw [eyeUp_fault hf]
    have Hl := Lib.hid (And.intro h (Off.refl (fun k => k = ep) w))
    have hfb : (f == (0 : Int)) = false := by simp [hf]
    clear hb hc hr h hne
    go_enter Try.func96, Try.ntmps96
    go_wp2_with fail
    go_ret
    exact ⟨rfl, Hl.out⟩

end Go.Proofs.Ythbafbgnclpbpaa
