/- Contracts of package answer: two. -/
import Derived.Test.YthbafbgnclpbpaaAns
import Derived.Test.YthbafbgnclpbpaaPen5
namespace Go.Proofs.Ythbafbgnclpbpaa
open Go.RowKit

/-- An answer in a variable. -/
def AnsAt (w : World) (g : Nat) (a : AnsD) (A : Option Addr) (c : Nat) : Prop :=
  w.cell? ⟨g, 0, none⟩ = some (.int .i64 a.code) ∧ w.cell? ⟨g, 1, none⟩ = some (.string a.key) ∧ w.cell? ⟨g, 2, none⟩ = some (.int .u64 (a.val : Int)) ∧ w.cell? ⟨g, 3, none⟩ = some (.slice A a.pairs.length c)
theorem AnsAt.up {w w' : World} {g : Nat} {a : AnsD} {A : Option Addr} {c : Nat} (h : AnsAt w g a A c) (hb : Below w.heap.size w w') (hg : g < w.heap.size) : AnsAt w' g a A c :=
  ⟨(hb.cell (p := ⟨g, 0, none⟩) hg).trans h.1, (hb.cell (p := ⟨g, 1, none⟩) hg).trans h.2.1, (hb.cell (p := ⟨g, 2, none⟩) hg).trans h.2.2.1, (hb.cell (p := ⟨g, 3, none⟩) hg).trans h.2.2.2⟩
theorem AnsAt.new (w : World) (a : AnsD) (A : Option Addr) (c : Nat) (T : TypeId) : AnsAt (w.alloc (.cells (ansCells a A c) T)) w.heap.size a A c :=
  ⟨new_cell w _ T 0 _ rfl, new_cell w _ T 1 _ rfl, new_cell w _ T 2 _ rfl, new_cell w _ T 3 _ rfl⟩
theorem ans_two (w : World) (a b : AnsD) (A B : Option Addr) (c d : Nat) (T : TypeId) :
    AnsAt ((w.alloc (.cells (ansCells a A c) T)).alloc (.cells (ansCells b B d) T)) w.heap.size a A c ∧ AnsAt ((w.alloc (.cells (ansCells a A c) T)).alloc (.cells (ansCells b B d) T)) (w.heap.size + 1) b B d ∧
    Below w.heap.size w ((w.alloc (.cells (ansCells a A c) T)).alloc (.cells (ansCells b B d) T)) ∧ w.heap.size + 1 < ((w.alloc (.cells (ansCells a A c) T)).alloc (.cells (ansCells b B d) T)).heap.size := by
  have h1 := AnsAt.new w a A c T
  have h2 := AnsAt.new (w.alloc (.cells (ansCells a A c) T)) b B d T
  have hs : (w.alloc (.cells (ansCells a A c) T)).heap.size = w.heap.size + 1 := by simp
  rw [hs] at h2
  exact ⟨h1.up (below_alloc _ _) (by simp), h2, below_of (below_alloc _ _) (below_alloc _ _), by simp⟩

/-- Have two answers the same? -/
def ansB (a b : AnsD) : Bool := decide (a.code = b.code) && (decide (a.key = b.key) && (decide (a.val = b.val) && decide (a.pairs = b.pairs)))

set_option maxRecDepth 100000 in
set_option maxHeartbeats 1000000 in
theorem anssame_any (a b : AnsD) (A B : Option Addr) (c d : Nat) (w : World) (h : Prs w A a.pairs.length a.pairs) (k : Prs w B b.pairs.length b.pairs) (hl : a.pairs.length ≤ 9223372036854775807) :
    Calls Try.prog 21 #[.agg (ansCells a A c), .agg (ansCells b B d)] w (Ret (.bool (ansB a b)) w) := by
  obtain ⟨hn1, hn2, hb, hsz⟩ := ans_two w a b A B c d 25
  have HP := Lib.hid (And.intro (h.up hb) (k.up hb))
  have hans : ansB a b = (decide (a.code = b.code) && (decide (a.key = b.key) && (decide (a.val = b.val) && decide (a.pairs = b.pairs)))) := rfl
  generalize ansB a b = r at hans ⊢
  have HR := Lib.hid hans
  clear hans h k
  obtain ⟨code, key, val, pairs⟩ := a
  obtain ⟨code', key', val', pairs'⟩ := b
  simp only [ansCells] at hn1 hn2 hb hsz HP HR ⊢
  simp only [] at hl
  go_enter Try.func21, Try.ntmps21
  go_upto_region 1 with fail
  generalize (w.alloc _).alloc _ = W at hn1 hn2 hb hsz HP ⊢
  obtain ⟨x0, x1, x2, x3⟩ := id hn1
  obtain ⟨y0, y1, y2, y3⟩ := id hn2
  simp only [] at x0 x1 x2 x3 y0 y1 y2 y3
  by_cases h1 : code = code'
  · subst h1
    by_cases h2 : key = key'
    · subst h2
      by_cases h3 : val = val'
      · subst h3
        go_wp2_with fail
        refine (equalP_any A B _ c _ d pairs pairs' _ HP.out.1 HP.out.2 hl).mono ?_
        rintro e w2 ⟨rfl, hb2⟩
        have HB := Lib.hid (below_of hb hb2)
        clear hb2
        go_wp2_with fail
        go_ret
        exact ⟨ret_bool (by rw [HR.out]; simp), HB.out⟩
      · have t3 : ((val : Int) == (val' : Int)) = false := by rw [beq_eq_false_iff_ne]; omega
        have H3 := Lib.hid h3
        clear h3
        go_wp2_with fail
        go_ret
        exact ⟨ret_bool (by rw [HR.out]; simp [H3.out]), hb⟩
    · have t2 := txt_ne h2
      have H2 := Lib.hid h2
      clear h2
      go_wp2_with fail
      go_ret
      exact ⟨ret_bool (by rw [HR.out]; simp [H2.out]), hb⟩
  · have t1 : (code == code') = false := by rw [beq_eq_false_iff_ne]; exact h1
    have H1 := Lib.hid h1
    clear h1
    go_wp2_with fail
    go_ret
    exact ⟨ret_bool (by rw [HR.out]; simp [H1.out]), hb⟩

set_option maxRecDepth 100000 in
set_option maxHeartbeats 1000000 in
theorem refsame17_any (a b : AnsD) (A B : Option Addr) (c d : Nat) (w : World) (h : Prs w A a.pairs.length a.pairs) (k : Prs w B b.pairs.length b.pairs) (hl : a.pairs.length ≤ 9223372036854775807) :
    Calls Try.prog 19 #[.agg (ansCells a A c), .agg (ansCells b B d)] w (Ret (.bool (ansB a b)) w) := by
  obtain ⟨hn1, hn2, hb, hsz⟩ := ans_two w a b A B c d 25
  have HP := Lib.hid (And.intro (h.up hb) (k.up hb))
  have hans : ansB a b = (decide (a.code = b.code) && (decide (a.key = b.key) && (decide (a.val = b.val) && decide (a.pairs = b.pairs)))) := rfl
  generalize ansB a b = r at hans ⊢
  have HR := Lib.hid hans
  clear hans h k
  obtain ⟨code, key, val, pairs⟩ := a
  obtain ⟨code', key', val', pairs'⟩ := b
  simp only [ansCells] at hn1 hn2 hb hsz HP HR ⊢
  simp only [] at hl
  go_enter Try.func19, Try.ntmps19
  go_upto_region 1 with fail
  generalize (w.alloc _).alloc _ = W at hn1 hn2 hb hsz HP ⊢
  obtain ⟨x0, x1, x2, x3⟩ := id hn1
  obtain ⟨y0, y1, y2, y3⟩ := id hn2
  simp only [] at x0 x1 x2 x3 y0 y1 y2 y3
  by_cases h1 : code = code'
  · subst h1
    by_cases h2 : key = key'
    · subst h2
      by_cases h3 : val = val'
      · subst h3
        go_wp2_with fail
        refine (same06_any A B _ c _ d pairs pairs' _ HP.out.1 HP.out.2 hl).mono ?_
        rintro e w2 ⟨rfl, hb2⟩
        have HB := Lib.hid (below_of hb hb2)
        clear hb2
        go_wp2_with fail
        go_ret
        exact ⟨ret_bool (by rw [HR.out]; simp), HB.out⟩
      · have t3 : ((val : Int) == (val' : Int)) = false := by rw [beq_eq_false_iff_ne]; omega
        have H3 := Lib.hid h3
        clear h3
        go_wp2_with fail
        go_ret
        exact ⟨ret_bool (by rw [HR.out]; simp [H3.out]), hb⟩
    · have t2 := txt_ne h2
      have H2 := Lib.hid h2
      clear h2
      go_wp2_with fail
      go_ret
      exact ⟨ret_bool (by rw [HR.out]; simp [H2.out]), hb⟩
  · have t1 : (code == code') = false := by rw [beq_eq_false_iff_ne]; exact h1
    have H1 := Lib.hid h1
    clear h1
    go_wp2_with fail
    go_ret
    exact ⟨ret_bool (by rw [HR.out]; simp [H1.out]), hb⟩


/-- Is an answer sound? -/
def sndA (a : AnsD) : Bool := decide (1 ≤ a.code ∧ a.code ≤ 6 ∧ a.key.size ≤ 64 ∧ a.pairs.length ≤ 4096 ∧ ∀ p ∈ a.pairs, p.key.size ≤ 64)
/-- Is an answer small? -/
def lightA (a : AnsD) : Bool := decide ((∀ p ∈ a.pairs, p.key.size ≤ 200) ∧ a.key.size ≤ 200 ∧ a.pairs.length ≤ 60)

theorem anslong_any (s : ByteArray) (w : World) (h : s.size ≤ maxLen) : Calls Try.prog 71 #[.string s] w (Ret (.bool (decide (64 < s.size))) w) := by
  have h2 : s.size ≤ 9223372036854775807 := h
  go_enter Try.func71, Try.ntmps71
  go_wp2_with fail
  go_ret
  exact ⟨ret_bool (by rw [decide_eq_decide]; omega), Below.refl _ _⟩

set_option maxRecDepth 100000 in
set_option maxHeartbeats 2000000 in
theorem anscheck_any (a : AnsD) (A : Option Addr) (c : Nat) (w : World) (h : Prs w A a.pairs.length a.pairs) (ha : AnsOk a) :
    Calls Try.prog 17 #[.agg (ansCells a A c)] w (Ret (.int .i64 (if sndA a = true then 0 else 2)) w) := by
  have hn := AnsAt.new w a A c 25
  have hb := below_alloc w (.cells (ansCells a A c) 25)
  have hz : w.heap.size < (w.alloc (.cells (ansCells a A c) 25)).heap.size := by simp
  have HP := Lib.hid (h.up hb)
  have hs : sndA a = decide (1 ≤ a.code ∧ a.code ≤ 6 ∧ a.key.size ≤ 64 ∧ a.pairs.length ≤ 4096 ∧ ∀ p ∈ a.pairs, p.key.size ≤ 64) := rfl
  generalize sndA a = r at hs ⊢
  have HR := Lib.hid hs
  have HK := Lib.hid ha
  have hkl := ha.key
  have hpl := ha.len
  generalize hv : (if r = true then (0 : Int) else 2) = v
  have HV := Lib.hid hv
  clear hs h ha hv
  obtain ⟨code, key, val, pairs⟩ := a
  simp only [ansCells] at hn hb hz HP ⊢
  simp only [] at HR hkl hpl
  have hkl2 : key.size ≤ 9223372036854775807 := hkl
  go_enter Try.func17, Try.ntmps17
  go_upto_region 2 with fail
  generalize w.alloc _ = W at hn hb hz HP ⊢
  obtain ⟨x0, x1, x2, x3⟩ := id hn
  simp only [] at x0 x1 x2 x3
  by_cases h1 : 1 ≤ code
  · have t1 : ¬ code < 1 := by omega
    by_cases h2 : code ≤ 6
    · have t2 : ¬ 6 < code := by omega
      go_wp2_with fail
      refine (anslong_any key _ hkl).mono ?_
      rintro e w2 ⟨rfl, hb2⟩
      replace hb := below_of hb hb2
      replace HP := Lib.hid (HP.out.up hb2)
      replace hn := hn.up hb2 hz
      replace hz := Nat.lt_of_lt_of_le hz hb2.size
      clear hb2 x0 x1 x2 x3
      obtain ⟨x0, x1, x2, x3⟩ := id hn
      simp only [] at x0 x1 x2 x3
      by_cases h3 : key.size ≤ 64
      · have t3 : decide (64 < key.size) = false := decide_eq_false (by omega)
        rw [t3]
        by_cases h4 : pairs.length ≤ 4096
        · have t4 : ¬ (4096 : Int) < (pairs.length : Int) := by omega
          have H := Lib.hid (And.intro h1 (And.intro h2 (And.intro h3 h4)))
          clear h1 h2 h3 t3
          go_wp2_with fail
          go_loopw [4, 28] (fun _ i wr => ∃ j : Nat, i = .int .i64 j ∧ Hid (j ≤ pairs.length ∧ (∀ q (hq : q < pairs.length), q < j → pairs[q].key.size ≤ 64) ∧ Below w2.heap.size w2 wr)) (fun _ i _ => pairs.length - (intOf i).toNat)
          case atStart => exact ⟨0, rfl, Nat.zero_le _, fun q _ hq => absurd hq (Nat.not_lt_zero _), Below.refl _ _⟩
          case round =>
            obtain ⟨j, rfl, HJ⟩ := hrel
            clear x0 x1 x2 x3
            obtain ⟨x0, x1, x2, x3⟩ := id (hn.up HJ.out.2.2 hz)
            simp only [] at x0 x1 x2 x3
            by_cases hlt : j < pairs.length
            · obtain ⟨b, off, hjl, rfl, hbl, c0, c1⟩ := (HP.out.up HJ.out.2.2).at_ hlt
              have hkj := (HK.out.pairs _ (List.getElem_mem hlt)).1
              have hkj2 : pairs[j].key.size ≤ 9223372036854775807 := hkj
              clear c1
              generalize hk : pairs[j].key = kj at c0 hkj hkj2
              have HKJ := Lib.hid hk
              clear hk
              go_wp2_with fail
              refine (anslong_any kj _ hkj).mono ?_
              rintro e w3 ⟨rfl, hb3⟩
              have HB := Lib.hid (HJ.out.2.2.trans (hb3.mono HJ.out.2.2.size))
              clear hb3
              by_cases h5 : kj.size ≤ 64
              · have t5 : decide (64 < kj.size) = false := decide_eq_false (by omega)
                rw [t5]
                have H5 := Lib.hid h5
                clear t5 h5
                go_wp2_with fail
                go_roundw
                case rel =>
                  refine ⟨j + 1, by go_num, by omega, fun q hq hqj => ?_, HB.out⟩
                  rcases Nat.lt_succ_iff_lt_or_eq.1 hqj with g | rfl
                  · exact HJ.out.2.1 q hq g
                  · rw [HKJ.out]; exact H5.out
                case measure => simp [intOf]; omega
              · have t5 : decide (64 < kj.size) = true := decide_eq_true (by omega)
                rw [t5]
                have H5 := Lib.hid h5
                clear t5 h5
                go_wp2_with fail
                go_ret
                refine ⟨ret_i64 ?_, hb.trans (HB.out.mono hb.size)⟩
                rw [← HV.out]
                exact (if_neg (by rw [HR.out, decide_eq_true_eq]; exact fun g => H5.out (by rw [← HKJ.out]; exact g.2.2.2.2 _ (List.getElem_mem hlt)))).symm
            · have hj : j = pairs.length := by have := HJ.out.1; omega
              go_wp2_with fail
              go_ret
              refine ⟨ret_i64 ?_, hb.trans (HJ.out.2.2.mono hb.size)⟩
              rw [← HV.out]
              refine (if_pos ?_).symm
              rw [HR.out, decide_eq_true_eq]
              refine ⟨H.out.1, H.out.2.1, H.out.2.2.1, H.out.2.2.2, fun p hp => ?_⟩
              obtain ⟨q, hq, rfl⟩ := List.getElem_of_mem hp
              exact HJ.out.2.1 q hq (by omega)
        · have t4 : (4096 : Int) < (pairs.length : Int) := by omega
          have H := Lib.hid h4
          clear h4 t3 h3
          go_wp2_with fail
          go_ret
          refine ⟨ret_i64 ?_, hb⟩
          rw [← HV.out]
          exact (if_neg (by rw [HR.out, decide_eq_true_eq]; exact fun g => H.out g.2.2.2.1)).symm
      · have t3 : decide (64 < key.size) = true := decide_eq_true (by omega)
        rw [t3]
        have H := Lib.hid h3
        clear t3 h3
        go_wp2_with fail
        go_ret
        refine ⟨ret_i64 ?_, hb⟩
        rw [← HV.out]
        exact (if_neg (by rw [HR.out, decide_eq_true_eq]; exact fun g => H.out g.2.2.1)).symm
    · have t2 : 6 < code := by omega
      have H := Lib.hid h2
      clear h2
      go_wp2_with fail
      go_ret
      refine ⟨ret_i64 ?_, hb⟩
      rw [← HV.out]
      exact (if_neg (by rw [HR.out, decide_eq_true_eq]; exact fun g => by have := H.out; omega)).symm
  · have t1 : code < 1 := by omega
    have H := Lib.hid h1
    clear h1
    go_wp2_with fail
    go_ret
    refine ⟨ret_i64 ?_, hb⟩
    rw [← HV.out]
    exact (if_neg (by rw [HR.out, decide_eq_true_eq]; exact fun g => by have := H.out; omega)).symm

end Go.Proofs.Ythbafbgnclpbpaa

namespace Go.Proofs.Ythbafbgnclpbpaa
open Go.RowKit

theorem code_cases (k : Int) : k = 1 ∨ k = 2 ∨ k = 3 ∨ k = 4 ∨ k = 5 ∨ k = 6 ∨ (k < 1 ∨ 6 < k) := by omega
def aNames : List ByteArray := [⟨#[]⟩, ⟨#[100, 111, 110, 101]⟩, ⟨#[110, 111, 110, 101]⟩, ⟨#[116, 104, 101, 114, 101]⟩, ⟨#[111, 116, 104, 101, 114]⟩, ⟨#[98, 97, 100]⟩, ⟨#[115, 104, 111, 114, 116]⟩]
def aName (k : Int) : ByteArray := if 1 ≤ k ∧ k ≤ 6 then aNames.getD k.toNat ⟨#[]⟩ else ⟨#[]⟩

set_option maxHeartbeats 1000000 in
theorem ansname_any (k : Int) (w : World) : Calls Try.prog 22 #[.int .i64 k] w (Ret (.string (aName k)) w) := by
  rcases code_cases k with rfl | rfl | rfl | rfl | rfl | rfl | h
  case inr.inr.inr.inr.inr.inr =>
    have hv : aName k = ⟨#[]⟩ := if_neg (by omega)
    rw [hv]
    have e1 : (k == (1 : Int)) = false := by rw [beq_eq_false_iff_ne]; omega
    have e2 : (k == (2 : Int)) = false := by rw [beq_eq_false_iff_ne]; omega
    have e3 : (k == (3 : Int)) = false := by rw [beq_eq_false_iff_ne]; omega
    have e4 : (k == (4 : Int)) = false := by rw [beq_eq_false_iff_ne]; omega
    have e5 : (k == (5 : Int)) = false := by rw [beq_eq_false_iff_ne]; omega
    have e6 : (k == (6 : Int)) = false := by rw [beq_eq_false_iff_ne]; omega
    clear hv h
    go_enter Try.func22, Try.ntmps22
    go_wp2_with fail
    go_ret
    exact ⟨rfl, Below.refl _ _⟩
  all_goals
    go_enter Try.func22, Try.ntmps22
    go_wp2_with fail
    go_ret
    exact ⟨rfl, Below.refl _ _⟩

set_option maxHeartbeats 1000000 in
theorem refname17_any (k : Int) (w : World) : Calls Try.prog 23 #[.int .i64 k] w (Ret (.string (aName k)) w) := by
  rcases code_cases k with rfl | rfl | rfl | rfl | rfl | rfl | h
  case inr.inr.inr.inr.inr.inr =>
    have hv : aName k = ⟨#[]⟩ := if_neg (by omega)
    rw [hv]
    by_cases h0 : k = 0
    · subst h0
      go_enter Try.func23, Try.ntmps23
      go_wp2_with fail
      go_ret
      exact ⟨rfl, below_alloc _ _⟩
    · rcases (show k < 0 ∨ (¬ k < 0 ∧ 7 ≤ k) by omega) with g | ⟨g, g'⟩
      · go_enter Try.func23, Try.ntmps23
        go_wp2_with fail
        go_ret
        exact ⟨rfl, below_alloc _ _⟩
      · go_enter Try.func23, Try.ntmps23
        go_wp2_with fail
        go_ret
        exact ⟨rfl, below_alloc _ _⟩
  all_goals
    go_enter Try.func23, Try.ntmps23
    go_wp2_with fail
    go_ret
    exact ⟨rfl, below_alloc _ _⟩

/-- The answer that a pair is. -/
def ofA (p : PairD) (ok : Bool) : AnsD := if ok = true then ⟨1, p.key, p.val, []⟩ else ⟨2, ⟨#[]⟩, 0, []⟩
set_option maxHeartbeats 1000000 in
theorem ansof_any (p : PairD) (ok : Bool) (w : World) : Calls Try.prog 18 #[.agg (prCells p), .bool ok] w (Ret (.agg (ansCells (ofA p ok) none 0)) w) := by
  obtain ⟨key, val⟩ := p
  have c0 : ((w.alloc (.cells (prCells ⟨key, val⟩) 32)).alloc (.cells #[.int .i64 0, .string ⟨#[]⟩, .int .u64 0, .slice none 0 0] 25)).cell? ⟨w.heap.size, 0, none⟩ = some (.string key) := ((below_alloc _ _).cell (p := ⟨w.heap.size, 0, none⟩) (by simp)).trans (new_cell w _ _ 0 _ rfl)
  have c1 : ((w.alloc (.cells (prCells ⟨key, val⟩) 32)).alloc (.cells #[.int .i64 0, .string ⟨#[]⟩, .int .u64 0, .slice none 0 0] 25)).cell? ⟨w.heap.size, 1, none⟩ = some (.int .u64 (val : Int)) := ((below_alloc _ _).cell (p := ⟨w.heap.size, 1, none⟩) (by simp)).trans (new_cell w _ _ 1 _ rfl)
  have hrs := heap_alloc_new (w.alloc (.cells (prCells ⟨key, val⟩) 32)) (.cells #[.int .i64 0, .string ⟨#[]⟩, .int .u64 0, .slice none 0 0] 25)
  have hb := below_of (below_alloc w (.cells (prCells ⟨key, val⟩) 32)) (below_alloc (w.alloc (.cells (prCells ⟨key, val⟩) 32)) (.cells #[.int .i64 0, .string ⟨#[]⟩, .int .u64 0, .slice none 0 0] 25))
  have hs : (w.alloc (.cells (prCells ⟨key, val⟩) 32)).heap.size = w.heap.size + 1 := by simp
  rw [hs] at hrs
  simp only [prCells] at c0 c1 hrs hb ⊢
  clear hs
  cases ok
  · have e : ofA ⟨key, val⟩ false = ⟨2, ⟨#[]⟩, 0, []⟩ := rfl
    rw [e]
    go_enter Try.func18, Try.ntmps18
    go_upto_region 1 with fail
    generalize (w.alloc _).alloc _ = W at c0 c1 hrs hb ⊢
    have t0 : W.cell? ⟨w.heap.size + 1, 0, none⟩ = some (.int .i64 0) := by simp [World.cell?, hrs]
    have t1 : W.cell? ⟨w.heap.size + 1, 1, none⟩ = some (.string ⟨#[]⟩) := by simp [World.cell?, hrs]
    have t2 : W.cell? ⟨w.heap.size + 1, 2, none⟩ = some (.int .u64 0) := by simp [World.cell?, hrs]
    have t3 : W.cell? ⟨w.heap.size + 1, 3, none⟩ = some (.slice none 0 0) := by simp [World.cell?, hrs]
    have f0 : W.frozen? ⟨w.heap.size + 1, 0, none⟩ = false := by simp [World.frozen?, hrs]
    have f1 : W.frozen? ⟨w.heap.size + 1, 1, none⟩ = false := by simp [World.frozen?, hrs]
    have f2 : W.frozen? ⟨w.heap.size + 1, 2, none⟩ = false := by simp [World.frozen?, hrs]
    have f3 : W.frozen? ⟨w.heap.size + 1, 3, none⟩ = false := by simp [World.frozen?, hrs]
    have HB := Lib.hid (fun (a b c d : Value) => (((hb.setCell (p := ⟨w.heap.size + 1, 0, none⟩) (Nat.le_succ _) a).setCell (p := ⟨w.heap.size + 1, 1, none⟩) (Nat.le_succ _) b).setCell (p := ⟨w.heap.size + 1, 2, none⟩) (Nat.le_succ _) c).setCell (p := ⟨w.heap.size + 1, 3, none⟩) (Nat.le_succ _) d)
    clear hrs c0 c1 hb
    go_wp2_with fail
    exact bodyPost_ret (v := .agg #[.int .i64 2, .string ⟨#[]⟩, .int .u64 0, .slice none 0 0]) (by simp [results, Try.results18, go_sem, *]) rfl ⟨rfl, HB.out _ _ _ _⟩
  · have e : ofA ⟨key, val⟩ true = ⟨1, key, val, []⟩ := rfl
    rw [e]
    go_enter Try.func18, Try.ntmps18
    go_upto_region 1 with fail
    generalize (w.alloc _).alloc _ = W at c0 c1 hrs hb ⊢
    have t0 : W.cell? ⟨w.heap.size + 1, 0, none⟩ = some (.int .i64 0) := by simp [World.cell?, hrs]
    have t1 : W.cell? ⟨w.heap.size + 1, 1, none⟩ = some (.string ⟨#[]⟩) := by simp [World.cell?, hrs]
    have t2 : W.cell? ⟨w.heap.size + 1, 2, none⟩ = some (.int .u64 0) := by simp [World.cell?, hrs]
    have t3 : W.cell? ⟨w.heap.size + 1, 3, none⟩ = some (.slice none 0 0) := by simp [World.cell?, hrs]
    have f0 : W.frozen? ⟨w.heap.size + 1, 0, none⟩ = false := by simp [World.frozen?, hrs]
    have f1 : W.frozen? ⟨w.heap.size + 1, 1, none⟩ = false := by simp [World.frozen?, hrs]
    have f2 : W.frozen? ⟨w.heap.size + 1, 2, none⟩ = false := by simp [World.frozen?, hrs]
    have f3 : W.frozen? ⟨w.heap.size + 1, 3, none⟩ = false := by simp [World.frozen?, hrs]
    have HB := Lib.hid (fun (a b c d : Value) => (((hb.setCell (p := ⟨w.heap.size + 1, 0, none⟩) (Nat.le_succ _) a).setCell (p := ⟨w.heap.size + 1, 1, none⟩) (Nat.le_succ _) b).setCell (p := ⟨w.heap.size + 1, 2, none⟩) (Nat.le_succ _) c).setCell (p := ⟨w.heap.size + 1, 3, none⟩) (Nat.le_succ _) d)
    clear hrs hb
    go_wp2_with fail
    exact bodyPost_ret (v := .agg #[.int .i64 1, .string key, .int .u64 (val : Int), .slice none 0 0]) (by simp [results, Try.results18, go_sem, *]) rfl ⟨rfl, HB.out _ _ _ _⟩

set_option maxRecDepth 100000 in
set_option maxHeartbeats 2000000 in
theorem light17_any (a : AnsD) (A : Option Addr) (c : Nat) (w : World) (h : Prs w A a.pairs.length a.pairs) (ha : AnsOk a) :
    Calls Try.prog 15 #[.agg (ansCells a A c)] w (Ret (.bool (lightA a)) w) := by
  have hn := AnsAt.new w a A c 25
  have hb := below_alloc w (.cells (ansCells a A c) 25)
  have hz : w.heap.size < (w.alloc (.cells (ansCells a A c) 25)).heap.size := by simp
  have HP := Lib.hid (h.up hb)
  have hs : lightA a = decide ((∀ p ∈ a.pairs, p.key.size ≤ 200) ∧ a.key.size ≤ 200 ∧ a.pairs.length ≤ 60) := rfl
  generalize lightA a = r at hs ⊢
  have HR := Lib.hid hs
  have HK := Lib.hid ha
  have hkl := ha.key
  have hpl := ha.len
  clear hs h ha
  obtain ⟨code, key, val, pairs⟩ := a
  simp only [ansCells] at hn hb hz HP ⊢
  simp only [] at HR hkl hpl
  have hkl2 : key.size ≤ 9223372036854775807 := hkl
  go_enter Try.func15, Try.ntmps15
  go_upto_region 1 with fail
  generalize w.alloc _ = W at hn hb hz HP ⊢
  obtain ⟨x0, x1, x2, x3⟩ := id hn
  simp only [] at x0 x1 x2 x3
  go_wp2_with fail
  go_loopw [4, 8] (fun _ i wr => ∃ j : Nat, i = .int .i64 j ∧ Hid (j ≤ pairs.length ∧ (∀ q (hq : q < pairs.length), q < j → pairs[q].key.size ≤ 200) ∧ Below W.heap.size W wr)) (fun _ i _ => pairs.length - (intOf i).toNat)
  case atStart => exact ⟨0, rfl, Nat.zero_le _, fun q _ hq => absurd hq (Nat.not_lt_zero _), Below.refl _ _⟩
  case round =>
    obtain ⟨j, rfl, HJ⟩ := hrel
    clear x0 x1 x2 x3
    obtain ⟨x0, x1, x2, x3⟩ := id (hn.up HJ.out.2.2 hz)
    simp only [] at x0 x1 x2 x3
    by_cases hlt : j < pairs.length
    · obtain ⟨b, off, hjl, rfl, hbl, c0, c1⟩ := (HP.out.up HJ.out.2.2).at_ hlt
      have hkj : pairs[j].key.size ≤ 9223372036854775807 := (HK.out.pairs _ (List.getElem_mem hlt)).1
      generalize hk : pairs[j].key = kj at c0 hkj
      have HKJ := Lib.hid hk
      clear hk
      by_cases h5 : kj.size ≤ 200
      · have t5 : decide ((200 : Int) < (kj.size : Int)) = false := decide_eq_false (by omega)
        have H5 := Lib.hid h5
        clear h5
        go_wp2_with fail
        go_roundw
        case rel =>
          refine ⟨j + 1, by go_num, by omega, fun q hq hqj => ?_, HJ.out.2.2.trans ((below_alloc _ _).mono HJ.out.2.2.size)⟩
          rcases Nat.lt_succ_iff_lt_or_eq.1 hqj with g | rfl
          · exact HJ.out.2.1 q hq g
          · rw [HKJ.out]; exact H5.out
        case measure => simp [intOf]; omega
      · have t5 : decide ((200 : Int) < (kj.size : Int)) = true := decide_eq_true (by omega)
        have H5 := Lib.hid h5
        clear h5
        go_wp2_with fail
        go_ret
        refine ⟨ret_bool ?_, hb.trans ((HJ.out.2.2.trans ((below_alloc _ _).mono HJ.out.2.2.size)).mono hb.size)⟩
        symm
        rw [HR.out]
        exact decide_eq_false fun g => by have := g.1 _ (List.getElem_mem hlt); rw [HKJ.out] at this; have := H5.out; omega
    · have hj : j = pairs.length := by have := HJ.out.1; omega
      have hall : ∀ p ∈ pairs, p.key.size ≤ 200 := fun p hp => by
        obtain ⟨q, hq, rfl⟩ := List.getElem_of_mem hp
        exact HJ.out.2.1 q hq (by omega)
      have HA := Lib.hid hall
      clear hall
      by_cases h3 : key.size ≤ 200
      · have t3 : decide ((key.size : Int) ≤ 200) = true := decide_eq_true (by omega)
        have H3 := Lib.hid h3
        clear h3
        go_wp2_with fail
        go_ret
        refine ⟨ret_bool ?_, hb.trans (HJ.out.2.2.mono hb.size)⟩
        rw [HR.out, decide_eq_decide]
        have := H3.out
        exact ⟨fun g => ⟨HA.out, H3.out, by omega⟩, fun g => by have := g.2.2; omega⟩
      · have t3 : decide ((key.size : Int) ≤ 200) = false := decide_eq_false (by omega)
        have H3 := Lib.hid h3
        clear h3
        go_wp2_with fail
        go_ret
        refine ⟨ret_bool ?_, hb.trans (HJ.out.2.2.mono hb.size)⟩
        symm
        rw [HR.out]
        exact decide_eq_false fun g => by have := H3.out; have := g.2.1; omega

set_option maxRecDepth 100000 in
set_option maxHeartbeats 2000000 in
theorem refsound17_any (a : AnsD) (A : Option Addr) (c : Nat) (w : World) (h : Prs w A a.pairs.length a.pairs) (ha : AnsOk a) :
    Calls Try.prog 20 #[.agg (ansCells a A c)] w (Ret (.bool (sndA a)) w) := by
  have hn := AnsAt.new w a A c 25
  have hb := below_alloc w (.cells (ansCells a A c) 25)
  have hz : w.heap.size < (w.alloc (.cells (ansCells a A c) 25)).heap.size := by simp
  have HP := Lib.hid (h.up hb)
  have hs : sndA a = decide (1 ≤ a.code ∧ a.code ≤ 6 ∧ a.key.size ≤ 64 ∧ a.pairs.length ≤ 4096 ∧ ∀ p ∈ a.pairs, p.key.size ≤ 64) := rfl
  generalize sndA a = r at hs ⊢
  have HR := Lib.hid hs
  have HK := Lib.hid ha
  have hkl := ha.key
  have hpl := ha.len
  clear hs h ha
  obtain ⟨code, key, val, pairs⟩ := a
  simp only [ansCells] at hn hb hz HP ⊢
  simp only [] at HR hkl hpl
  have hkl2 : key.size ≤ 9223372036854775807 := hkl
  go_enter Try.func20, Try.ntmps20
  go_upto_region 1 with fail
  generalize w.alloc _ = W at hn hb hz HP ⊢
  obtain ⟨x0, x1, x2, x3⟩ := id hn
  simp only [] at x0 x1 x2 x3
  by_cases h1 : 1 ≤ code
  · have t1 : decide (code < 1) = false := decide_eq_false (by omega)
    by_cases h2 : code ≤ 6
    · have t2 : decide (6 < code) = false := decide_eq_false (by omega)
      by_cases h3 : key.size ≤ 64
      · have t3 : decide ((64 : Int) < (key.size : Int)) = false := decide_eq_false (by omega)
        by_cases h4 : pairs.length ≤ 4096
        · have t4 : decide ((4096 : Int) < (pairs.length : Int)) = false := decide_eq_false (by omega)
          have H := Lib.hid (And.intro h1 (And.intro h2 (And.intro h3 h4)))
          clear h1 h2 h3
          go_wp2_with fail
          go_loopw [3] (fun i wr => ∃ j : Nat, i = .int .i64 j ∧ Hid (j ≤ pairs.length ∧ (∀ q (hq : q < pairs.length), q < j → pairs[q].key.size ≤ 64) ∧ Below W.heap.size W wr)) (fun i _ => pairs.length - (intOf i).toNat)
          case atStart => exact ⟨0, rfl, Nat.zero_le _, fun q _ hq => absurd hq (Nat.not_lt_zero _), Below.refl _ _⟩
          case round =>
            obtain ⟨j, rfl, HJ⟩ := hrel
            clear x0 x1 x2 x3
            obtain ⟨x0, x1, x2, x3⟩ := id (hn.up HJ.out.2.2 hz)
            simp only [] at x0 x1 x2 x3
            by_cases hlt : j < pairs.length
            · obtain ⟨b, off, hjl, rfl, hbl, c0, c1⟩ := (HP.out.up HJ.out.2.2).at_ hlt
              have hkj : pairs[j].key.size ≤ 9223372036854775807 := (HK.out.pairs _ (List.getElem_mem hlt)).1
              generalize hk : pairs[j].key = kj at c0 hkj
              have HKJ := Lib.hid hk
              clear hk
              by_cases h5 : kj.size ≤ 64
              · have t5 : decide ((64 : Int) < (kj.size : Int)) = false := decide_eq_false (by omega)
                have H5 := Lib.hid h5
                clear h5
                go_wp2_with fail
                go_roundw
                case rel =>
                  refine ⟨j + 1, by go_num, by omega, fun q hq hqj => ?_, HJ.out.2.2⟩
                  rcases Nat.lt_succ_iff_lt_or_eq.1 hqj with g | rfl
                  · exact HJ.out.2.1 q hq g
                  · rw [HKJ.out]; exact H5.out
                case measure => simp [intOf]; omega
              · have t5 : decide ((64 : Int) < (kj.size : Int)) = true := decide_eq_true (by omega)
                have H5 := Lib.hid h5
                clear h5
                go_wp2_with fail
                go_ret
                refine ⟨ret_bool ?_, hb.trans (HJ.out.2.2.mono hb.size)⟩
                symm
                rw [HR.out]
                exact decide_eq_false fun g => by have := g.2.2.2.2 _ (List.getElem_mem hlt); rw [HKJ.out] at this; have := H5.out; omega
            · have hj : j = pairs.length := by have := HJ.out.1; omega
              go_wp2_with fail
              go_ret
              refine ⟨ret_bool ?_, hb.trans (HJ.out.2.2.mono hb.size)⟩
              symm
              rw [HR.out]
              refine decide_eq_true ⟨H.out.1, H.out.2.1, H.out.2.2.1, H.out.2.2.2, fun p hp => ?_⟩
              obtain ⟨q, hq, rfl⟩ := List.getElem_of_mem hp
              exact HJ.out.2.1 q hq (by omega)
        · have t4 : decide ((4096 : Int) < (pairs.length : Int)) = true := decide_eq_true (by omega)
          have H := Lib.hid h4
          clear h4
          go_wp2_with fail
          go_ret
          refine ⟨ret_bool ?_, hb⟩
          symm
          rw [HR.out]
          exact decide_eq_false fun g => by have := H.out; omega
      · have t3 : decide ((64 : Int) < (key.size : Int)) = true := decide_eq_true (by omega)
        have H := Lib.hid h3
        clear h3
        go_wp2_with fail
        go_ret
        refine ⟨ret_bool ?_, hb⟩
        symm
        rw [HR.out]
        exact decide_eq_false fun g => by have := H.out; omega
    · have t2 : decide (6 < code) = true := decide_eq_true (by omega)
      have H := Lib.hid h2
      clear h2
      go_wp2_with fail
      go_ret
      refine ⟨ret_bool ?_, hb⟩
      symm
      rw [HR.out]
      exact decide_eq_false fun g => by have := H.out; omega
  · have t1 : decide (code < 1) = true := decide_eq_true (by omega)
    have H := Lib.hid h1
    clear h1
    go_wp2_with fail
    go_ret
    refine ⟨ret_bool ?_, hb⟩
    symm
    rw [HR.out]
    exact decide_eq_false fun g => by have := H.out; omega

end Go.Proofs.Ythbafbgnclpbpaa
