/- Contracts of package history: calls; Before. -/
import Derived.Test.YthbafbgnclpbpaaAnsA
import Derived.Test.YthbafbgnclpbpaaOpB
import Derived.Test.YthbafbgnclpbpaaZAns6
import Derived.Test.YthbafbgnclpbpaaZOp10
import Derived.Test.YthbafbgnclpbpaaSx
namespace Go.Proofs.Ythbafbgnclpbpaa
open Go.RowKit

/-- A call; pa, pc: where the pairs of its answer lie. -/
structure CallD where
  thread : Int
  op : OpD
  since : Int
  done : Int
  upto : Int
  steps : Int
  short : Bool
  ans : AnsD
  pa : Option Addr
  pc : Nat
def callCells (x : CallD) : Array Value := #[.int .i64 x.thread, .int .i64 x.op.kind, .string x.op.key, .string x.op.upto, .int .u64 (x.op.val : Int), .int .i64 x.op.limit, .int .i64 x.since, .int .i64 x.done, .int .i64 x.upto, .int .i64 x.steps, .bool x.short, .int .i64 x.ans.code, .string x.ans.key, .int .u64 (x.ans.val : Int), .slice x.pa x.ans.pairs.length x.pc]
def I64 (z : Int) : Prop := -9223372036854775808 ≤ z ∧ z ≤ 9223372036854775807
structure CallOk (x : CallD) : Prop where
  thread : I64 x.thread
  op : OpOk x.op
  since : I64 x.since
  done : I64 x.done
  upto : I64 x.upto
  steps : I64 x.steps
  ans : AnsOk x.ans
/-- A slice of calls. -/
def Cls (w : World) (A : Option Addr) (n : Nat) (xs : List CallD) : Prop :=
  xs.length = n ∧ (∀ x ∈ xs, Prs w x.pa x.ans.pairs.length x.ans.pairs) ∧ (0 < n → ∃ b off, A = some ⟨b, off, none⟩ ∧ b < w.heap.size ∧ ∀ (j : Nat) (hj : j < xs.length) (k : Nat) (v : Value), (callCells xs[j])[k]? = some v → w.cell? ⟨b, off + j * 15 + k, none⟩ = some v)
theorem Cls.up {w w' : World} {A : Option Addr} {n : Nat} {xs : List CallD} (h : Cls w A n xs) (hb : Below w.heap.size w w') : Cls w' A n xs := ⟨h.1, fun x hx => (h.2.1 x hx).up hb, fun h0 => by
  obtain ⟨b, off, e, hbl, hc⟩ := h.2.2 h0
  exact ⟨b, off, e, Nat.lt_of_lt_of_le hbl hb.size, fun j hj k v hv => (hb.cell (p := ⟨b, off + j * 15 + k, none⟩) hbl).trans (hc j hj k v hv)⟩⟩
/-- A call in a variable, or within a row. -/
def CallAt (w : World) (b o : Nat) (x : CallD) : Prop :=
  w.cell? ⟨b, o, none⟩ = some (.int .i64 x.thread) ∧ w.cell? ⟨b, o + 1, none⟩ = some (.int .i64 x.op.kind) ∧ w.cell? ⟨b, o + 2, none⟩ = some (.string x.op.key) ∧ w.cell? ⟨b, o + 3, none⟩ = some (.string x.op.upto) ∧ w.cell? ⟨b, o + 4, none⟩ = some (.int .u64 (x.op.val : Int)) ∧ w.cell? ⟨b, o + 5, none⟩ = some (.int .i64 x.op.limit) ∧
  w.cell? ⟨b, o + 6, none⟩ = some (.int .i64 x.since) ∧ w.cell? ⟨b, o + 7, none⟩ = some (.int .i64 x.done) ∧ w.cell? ⟨b, o + 8, none⟩ = some (.int .i64 x.upto) ∧ w.cell? ⟨b, o + 9, none⟩ = some (.int .i64 x.steps) ∧ w.cell? ⟨b, o + 10, none⟩ = some (.bool x.short) ∧
  w.cell? ⟨b, o + 11, none⟩ = some (.int .i64 x.ans.code) ∧ w.cell? ⟨b, o + 12, none⟩ = some (.string x.ans.key) ∧ w.cell? ⟨b, o + 13, none⟩ = some (.int .u64 (x.ans.val : Int)) ∧ w.cell? ⟨b, o + 14, none⟩ = some (.slice x.pa x.ans.pairs.length x.pc)
theorem CallAt.of {w : World} {b o : Nat} {x : CallD} (h : ∀ (k : Nat) (v : Value), (callCells x)[k]? = some v → w.cell? ⟨b, o + k, none⟩ = some v) : CallAt w b o x :=
  ⟨h 0 _ rfl, h 1 _ rfl, h 2 _ rfl, h 3 _ rfl, h 4 _ rfl, h 5 _ rfl, h 6 _ rfl, h 7 _ rfl, h 8 _ rfl, h 9 _ rfl, h 10 _ rfl, h 11 _ rfl, h 12 _ rfl, h 13 _ rfl, h 14 _ rfl⟩
theorem CallAt.up {w w' : World} {b o : Nat} {x : CallD} (h : CallAt w b o x) (hb : Below w.heap.size w w') (hg : b < w.heap.size) : CallAt w' b o x := by
  obtain ⟨h0, h1, h2, h3, h4, h5, h6, h7, h8, h9, h10, h11, h12, h13, h14⟩ := h
  have k := fun (i : Nat) => hb.cell (p := ⟨b, i, none⟩) hg
  exact ⟨(k _).trans h0, (k _).trans h1, (k _).trans h2, (k _).trans h3, (k _).trans h4, (k _).trans h5, (k _).trans h6, (k _).trans h7, (k _).trans h8, (k _).trans h9, (k _).trans h10, (k _).trans h11, (k _).trans h12, (k _).trans h13, (k _).trans h14⟩
theorem CallAt.new (w : World) (x : CallD) (T : TypeId) : CallAt (w.alloc (.cells (callCells x) T)) w.heap.size 0 x :=
  CallAt.of fun k v hk => by rw [Nat.zero_add]; exact new_cell w _ T k v hk
theorem Cls.at_ {w : World} {A : Option Addr} {n : Nat} {xs : List CallD} (h : Cls w A n xs) {j : Nat} (hj : j < n) : ∃ b off, ∃ hjl : j < xs.length, A = some ⟨b, off, none⟩ ∧ b < w.heap.size ∧ CallAt w b (off + j * 15) xs[j] ∧ Prs w xs[j].pa xs[j].ans.pairs.length xs[j].ans.pairs := by
  obtain ⟨b, off, e, hbl, hc⟩ := h.2.2 (by omega)
  have hjl : j < xs.length := by rw [h.1]; exact hj
  exact ⟨b, off, hjl, e, hbl, CallAt.of fun k v hk => hc j hjl k v hk, h.2.1 _ (List.getElem_mem hjl)⟩

/-- Is a call over before another one begins? -/
def beforeB (a b : CallD) : Bool := decide (a.upto ≠ -1) && decide (a.upto < b.since)

set_option maxRecDepth 100000 in
set_option maxHeartbeats 1000000 in
theorem before_any (a b : CallD) (w : World) : Calls Try.prog 56 #[.agg (callCells a), .agg (callCells b)] w (Ret (.bool (beforeB a b)) w) := by
  have hsz : (w.alloc (.cells (callCells a) 71)).heap.size = w.heap.size + 1 := by simp
  have hba := below_alloc w (.cells (callCells a) 71)
  have hbb := below_alloc (w.alloc (.cells (callCells a) 71)) (.cells (callCells b) 71)
  have h1 := (CallAt.new w a 71).up hbb (by simp)
  have h2 := CallAt.new (w.alloc (.cells (callCells a) 71)) b 71
  rw [hsz] at h2
  have HB := Lib.hid (below_of hba hbb)
  have hbf : beforeB a b = (decide (a.upto ≠ -1) && decide (a.upto < b.since)) := rfl
  generalize beforeB a b = r at hbf ⊢
  have HR := Lib.hid hbf
  clear hsz hba hbb hbf
  obtain ⟨thread, ⟨kind, key, oupto, val, limit⟩, since, done, upto, steps, short, ⟨code, akey, aval, pairs⟩, pa, pc⟩ := a
  obtain ⟨thread', ⟨kind', key', oupto', val', limit'⟩, since', done', upto', steps', short', ⟨code', akey', aval', pairs'⟩, pa', pc'⟩ := b
  simp only [callCells] at h1 h2 HB ⊢
  simp only [] at HR
  go_enter Try.func56, Try.ntmps56
  go_upto_region 1 with fail
  generalize (w.alloc _).alloc _ = W at h1 h2 HB ⊢
  obtain ⟨-, -, -, -, -, -, x6, x7, x8, -, -, -, -, -, -⟩ := h1
  obtain ⟨-, -, -, -, -, -, y6, y7, y8, -, -, -, -, -, -⟩ := h2
  simp only [Nat.zero_add] at x6 x7 x8 y6 y7 y8
  by_cases hu : upto = -1
  · have t1 : (upto != (-1 : Int)) = false := by simp [hu]
    have HU := Lib.hid hu
    clear hu
    go_wp2_with fail
    go_ret
    exact ⟨ret_bool (by rw [HR.out, HU.out]; rfl), HB.out⟩
  · have t1 : (upto != (-1 : Int)) = true := by simp [hu]
    have HU := Lib.hid hu
    clear hu
    go_wp2_with fail
    go_ret
    exact ⟨ret_bool (by rw [HR.out, decide_eq_true HU.out]; rfl), HB.out⟩

set_option maxRecDepth 100000 in
set_option maxHeartbeats 1000000 in
theorem refbefore_any (a b : CallD) (w : World) : Calls Try.prog 57 #[.agg (callCells a), .agg (callCells b)] w (Ret (.bool (beforeB a b)) w) := by
  have hsz : (w.alloc (.cells (callCells a) 71)).heap.size = w.heap.size + 1 := by simp
  have hba := below_alloc w (.cells (callCells a) 71)
  have hbb := below_alloc (w.alloc (.cells (callCells a) 71)) (.cells (callCells b) 71)
  have h1 := (CallAt.new w a 71).up hbb (by simp)
  have h2 := CallAt.new (w.alloc (.cells (callCells a) 71)) b 71
  rw [hsz] at h2
  have HB := Lib.hid (below_of hba hbb)
  have hbf : beforeB a b = (decide (a.upto ≠ -1) && decide (a.upto < b.since)) := rfl
  generalize beforeB a b = r at hbf ⊢
  have HR := Lib.hid hbf
  clear hsz hba hbb hbf
  obtain ⟨thread, ⟨kind, key, oupto, val, limit⟩, since, done, upto, steps, short, ⟨code, akey, aval, pairs⟩, pa, pc⟩ := a
  obtain ⟨thread', ⟨kind', key', oupto', val', limit'⟩, since', done', upto', steps', short', ⟨code', akey', aval', pairs'⟩, pa', pc'⟩ := b
  simp only [callCells] at h1 h2 HB ⊢
  simp only [] at HR
  go_enter Try.func57, Try.ntmps57
  go_upto_region 1 with fail
  generalize (w.alloc _).alloc _ = W at h1 h2 HB ⊢
  obtain ⟨-, -, -, -, -, -, x6, x7, x8, -, -, -, -, -, -⟩ := h1
  obtain ⟨-, -, -, -, -, -, y6, y7, y8, -, -, -, -, -, -⟩ := h2
  simp only [Nat.zero_add] at x6 x7 x8 y6 y7 y8
  by_cases hu : upto = -1
  · have t1 : (upto != (-1 : Int)) = false := by simp [hu]
    have HU := Lib.hid hu
    clear hu
    go_wp2_with fail
    go_ret
    exact ⟨ret_bool (by rw [HR.out, HU.out]; rfl), HB.out⟩
  · have t1 : (upto != (-1 : Int)) = true := by simp [hu]
    have HU := Lib.hid hu
    clear hu
    go_wp2_with fail
    go_ret
    exact ⟨ret_bool (by rw [HR.out, decide_eq_true HU.out]; rfl), HB.out⟩


end Go.Proofs.Ythbafbgnclpbpaa

namespace Go.Proofs.Ythbafbgnclpbpaa
open Go.RowKit

/-- Is a call sound, of what is asked of it? -/
def sndF (b1 b2 b3 b4 b5 b6 sh b7 b8 sz b9 sn : Bool) : Bool := !(b1 || (b2 || (b3 || b4))) && (!(b5 && b6) && (!(sh && b7) && (if b8 = true then sz else b5 && (b9 && sn))))
def sndC (x : CallD) : Bool :=
  sndF (decide (x.thread < 0)) (decide (16 ≤ x.thread)) (decide (x.since < 0)) (decide (x.steps < 0)) (x.done != -1) (decide (x.done < x.since)) x.short (x.done == -1) (x.upto == -1) (ansB x.ans ansZ) (decide (x.done ≤ x.upto)) (sndA x.ans)

set_option maxRecDepth 100000 in
set_option maxHeartbeats 8000000 in
theorem csound_any (x : CallD) (w : World) (hx : CallOk x) (hp : Prs w x.pa x.ans.pairs.length x.ans.pairs) : Calls Try.prog 90 #[.agg (callCells x)] w (Ret (.bool (sndC x)) w) := by
  have hba := below_alloc w (.cells (callCells x) 71)
  have hn := CallAt.new w x 71
  have HB := Lib.hid hba
  have hr : sndC x = sndF (decide (x.thread < 0)) (decide (16 ≤ x.thread)) (decide (x.since < 0)) (decide (x.steps < 0)) (x.done != -1) (decide (x.done < x.since)) x.short (x.done == -1) (x.upto == -1) (ansB x.ans ansZ) (decide (x.done ≤ x.upto)) (sndA x.ans) := rfl
  have e5 : (x.done == -1) = !(x.done != -1) := by rw [bne, Bool.not_not]
  rw [e5] at hr
  have HSa := Lib.hid (fun W (hW : Prs W x.pa x.ans.pairs.length x.ans.pairs) => anssame_any x.ans ansZ x.pa none x.pc 0 W hW ⟨rfl, fun h0 => absurd h0 (Nat.lt_irrefl 0)⟩ hx.ans.len)
  have HCk := Lib.hid (fun W (hW : Prs W x.pa x.ans.pairs.length x.ans.pairs) => anscheck_any x.ans x.pa x.pc W hW hx.ans)
  have HP := Lib.hid (hp.up hba)
  generalize sndC x = r at hr ⊢
  generalize sndA x.ans = sn at hr HCk
  generalize ansB x.ans ansZ = sz at hr HSa
  clear hba hp hx
  generalize h1 : decide (x.thread < 0) = b1 at hr
  generalize h2' : decide (16 ≤ x.thread) = b2 at hr
  have h2 : decide (16 ≤ x.thread) = b2 := by first | exact h2' | (rw [← h2']; skip)
  generalize h3 : decide (x.since < 0) = b3 at hr
  generalize h4 : decide (x.steps < 0) = b4 at hr
  generalize h5 : (x.done != -1) = b5 at hr e5
  generalize h6 : decide (x.done < x.since) = b6 at hr
  generalize h8 : (x.upto == -1) = b8 at hr
  generalize h9 : decide (x.done ≤ x.upto) = b9 at hr
  clear h2'
  obtain ⟨thread, ⟨kind, key, oupto, val, limit⟩, since, done, upto, steps, short, ⟨code, akey, aval, pairs⟩, pa, pc⟩ := x
  simp only [] at h1 h2 h3 h4 h5 h6 h8 h9 e5 hr HP
  simp only [callCells] at hn HB HP ⊢
  simp only [ansCells, ansZ, List.length_nil, Int.natCast_zero] at HSa HCk
  have HR := Lib.hid hr
  clear hr
  go_enter Try.func90, Try.ntmps90
  go_upto_region 2 with fail
  generalize w.alloc _ = W at hn HB HP ⊢
  obtain ⟨x0, x1, x2, x3, x4, x5, x6, x7, x8, x9, x10, x11, x12, x13, x14⟩ := hn
  simp only [Nat.zero_add] at x0 x1 x2 x3 x4 x5 x6 x7 x8 x9 x10 x11 x12 x13 x14
  cases b1
  · cases b2
    · cases b3
      · cases b4
        · cases b5
          · cases short
            · cases b8
              · go_wp2_with fail
                go_ret
                exact ⟨ret_bool (by rw [HR.out]; first | rfl | simp [sndF]), HB.out⟩
              · go_wp2_with fail
                refine (HSa.out _ HP.out).mono ?_
                rintro e wn ⟨rfl, hbn⟩
                go_wp2_with fail
                go_ret
                exact ⟨ret_bool (by rw [HR.out]; rfl), below_of HB.out hbn⟩
            · go_wp2_with fail
              go_ret
              exact ⟨ret_bool (by rw [HR.out]; first | rfl | simp [sndF]), HB.out⟩
          · cases b6
            · cases short
              · cases b8
                · cases b9
                  · go_wp2_with fail
                    go_ret
                    exact ⟨ret_bool (by rw [HR.out]; first | rfl | simp [sndF]), HB.out⟩
                  · go_wp2_with fail
                    refine (HCk.out _ HP.out).mono ?_
                    rintro e wn ⟨rfl, hbn⟩
                    cases sn
                    · (try simp only [if_false, Bool.false_eq_true])
                      go_wp2_with fail
                      go_ret
                      exact ⟨ret_bool (by rw [HR.out]; rfl), below_of HB.out hbn⟩
                    · (try simp only [if_true])
                      go_wp2_with fail
                      go_ret
                      exact ⟨ret_bool (by rw [HR.out]; rfl), below_of HB.out hbn⟩
                · go_wp2_with fail
                  refine (HSa.out _ HP.out).mono ?_
                  rintro e wn ⟨rfl, hbn⟩
                  go_wp2_with fail
                  go_ret
                  exact ⟨ret_bool (by rw [HR.out]; rfl), below_of HB.out hbn⟩
              · cases b8
                · cases b9
                  · go_wp2_with fail
                    go_ret
                    exact ⟨ret_bool (by rw [HR.out]; first | rfl | simp [sndF]), HB.out⟩
                  · go_wp2_with fail
                    refine (HCk.out _ HP.out).mono ?_
                    rintro e wn ⟨rfl, hbn⟩
                    cases sn
                    · (try simp only [if_false, Bool.false_eq_true])
                      go_wp2_with fail
                      go_ret
                      exact ⟨ret_bool (by rw [HR.out]; rfl), below_of HB.out hbn⟩
                    · (try simp only [if_true])
                      go_wp2_with fail
                      go_ret
                      exact ⟨ret_bool (by rw [HR.out]; rfl), below_of HB.out hbn⟩
                · go_wp2_with fail
                  refine (HSa.out _ HP.out).mono ?_
                  rintro e wn ⟨rfl, hbn⟩
                  go_wp2_with fail
                  go_ret
                  exact ⟨ret_bool (by rw [HR.out]; rfl), below_of HB.out hbn⟩
            · go_wp2_with fail
              go_ret
              exact ⟨ret_bool (by rw [HR.out]; first | rfl | simp [sndF]), HB.out⟩
        · go_wp2_with fail
          go_ret
          exact ⟨ret_bool (by rw [HR.out]; first | rfl | simp [sndF]), HB.out⟩
      · go_wp2_with fail
        go_ret
        exact ⟨ret_bool (by rw [HR.out]; first | rfl | simp [sndF]), HB.out⟩
    · go_wp2_with fail
      go_ret
      exact ⟨ret_bool (by rw [HR.out]; first | rfl | simp [sndF]), HB.out⟩
  · go_wp2_with fail
    go_ret
    exact ⟨ret_bool (by rw [HR.out]; first | rfl | simp [sndF]), HB.out⟩

set_option maxRecDepth 100000 in
set_option maxHeartbeats 8000000 in
theorem refcsound_any (x : CallD) (w : World) (hx : CallOk x) (hp : Prs w x.pa x.ans.pairs.length x.ans.pairs) : Calls Try.prog 91 #[.agg (callCells x)] w (Ret (.bool (sndC x)) w) := by
  have hba := below_alloc w (.cells (callCells x) 71)
  have hn := CallAt.new w x 71
  have HB := Lib.hid hba
  have hr : sndC x = sndF (decide (x.thread < 0)) (decide (16 ≤ x.thread)) (decide (x.since < 0)) (decide (x.steps < 0)) (x.done != -1) (decide (x.done < x.since)) x.short (x.done == -1) (x.upto == -1) (ansB x.ans ansZ) (decide (x.done ≤ x.upto)) (sndA x.ans) := rfl
  have e5 : (x.done == -1) = !(x.done != -1) := by rw [bne, Bool.not_not]
  rw [e5] at hr
  have HSa := Lib.hid (fun W (hW : Prs W x.pa x.ans.pairs.length x.ans.pairs) => refsame17_any x.ans ansZ x.pa none x.pc 0 W hW ⟨rfl, fun h0 => absurd h0 (Nat.lt_irrefl 0)⟩ hx.ans.len)
  have HCk := Lib.hid (fun W (hW : Prs W x.pa x.ans.pairs.length x.ans.pairs) => refsound17_any x.ans x.pa x.pc W hW hx.ans)
  have HP := Lib.hid (hp.up hba)
  generalize sndC x = r at hr ⊢
  generalize sndA x.ans = sn at hr HCk
  generalize ansB x.ans ansZ = sz at hr HSa
  clear hba hp hx
  generalize h1 : decide (x.thread < 0) = b1 at hr
  generalize h2' : decide (16 ≤ x.thread) = b2 at hr
  have h2 : decide (15 < x.thread) = b2 := by first | exact h2' | (rw [← h2']; exact decide_eq_decide.2 (by omega))
  generalize h3 : decide (x.since < 0) = b3 at hr
  generalize h4 : decide (x.steps < 0) = b4 at hr
  generalize h5 : (x.done != -1) = b5 at hr e5
  generalize h6 : decide (x.done < x.since) = b6 at hr
  generalize h8 : (x.upto == -1) = b8 at hr
  generalize h9 : decide (x.done ≤ x.upto) = b9 at hr
  clear h2'
  obtain ⟨thread, ⟨kind, key, oupto, val, limit⟩, since, done, upto, steps, short, ⟨code, akey, aval, pairs⟩, pa, pc⟩ := x
  simp only [] at h1 h2 h3 h4 h5 h6 h8 h9 e5 hr HP
  simp only [callCells] at hn HB HP ⊢
  simp only [ansCells, ansZ, List.length_nil, Int.natCast_zero] at HSa HCk
  have HR := Lib.hid hr
  clear hr
  go_enter Try.func91, Try.ntmps91
  go_upto_region 1 with fail
  generalize w.alloc _ = W at hn HB HP ⊢
  obtain ⟨x0, x1, x2, x3, x4, x5, x6, x7, x8, x9, x10, x11, x12, x13, x14⟩ := hn
  simp only [Nat.zero_add] at x0 x1 x2 x3 x4 x5 x6 x7 x8 x9 x10 x11 x12 x13 x14
  cases b1
  · cases b2
    · cases b3
      · cases b4
        · cases b5
          · cases short
            · cases b8
              · go_wp2_with fail
                go_ret
                exact ⟨ret_bool (by rw [HR.out]; first | rfl | simp [sndF]), HB.out⟩
              · go_wp2_with fail
                refine (HSa.out _ HP.out).mono ?_
                rintro e wn ⟨rfl, hbn⟩
                go_wp2_with fail
                go_ret
                exact ⟨ret_bool (by rw [HR.out]; rfl), below_of HB.out hbn⟩
            · go_wp2_with fail
              go_ret
              exact ⟨ret_bool (by rw [HR.out]; first | rfl | simp [sndF]), HB.out⟩
          · cases b6
            · cases short
              · cases b8
                · cases b9
                  · go_wp2_with fail
                    go_ret
                    exact ⟨ret_bool (by rw [HR.out]; first | rfl | simp [sndF]), HB.out⟩
                  · go_wp2_with fail
                    refine (HCk.out _ HP.out).mono ?_
                    rintro e wn ⟨rfl, hbn⟩
                    cases sn
                    · (try simp only [if_false, Bool.false_eq_true])
                      go_wp2_with fail
                      go_ret
                      exact ⟨ret_bool (by rw [HR.out]; rfl), below_of HB.out hbn⟩
                    · (try simp only [if_true])
                      go_wp2_with fail
                      go_ret
                      exact ⟨ret_bool (by rw [HR.out]; rfl), below_of HB.out hbn⟩
                · go_wp2_with fail
                  refine (HSa.out _ HP.out).mono ?_
                  rintro e wn ⟨rfl, hbn⟩
                  go_wp2_with fail
                  go_ret
                  exact ⟨ret_bool (by rw [HR.out]; rfl), below_of HB.out hbn⟩
              · cases b8
                · cases b9
                  · go_wp2_with fail
                    go_ret
                    exact ⟨ret_bool (by rw [HR.out]; first | rfl | simp [sndF]), HB.out⟩
                  · go_wp2_with fail
                    refine (HCk.out _ HP.out).mono ?_
                    rintro e wn ⟨rfl, hbn⟩
                    cases sn
                    · (try simp only [if_false, Bool.false_eq_true])
                      go_wp2_with fail
                      go_ret
                      exact ⟨ret_bool (by rw [HR.out]; rfl), below_of HB.out hbn⟩
                    · (try simp only [if_true])
                      go_wp2_with fail
                      go_ret
                      exact ⟨ret_bool (by rw [HR.out]; rfl), below_of HB.out hbn⟩
                · go_wp2_with fail
                  refine (HSa.out _ HP.out).mono ?_
                  rintro e wn ⟨rfl, hbn⟩
                  go_wp2_with fail
                  go_ret
                  exact ⟨ret_bool (by rw [HR.out]; rfl), below_of HB.out hbn⟩
            · go_wp2_with fail
              go_ret
              exact ⟨ret_bool (by rw [HR.out]; first | rfl | simp [sndF]), HB.out⟩
        · go_wp2_with fail
          go_ret
          exact ⟨ret_bool (by rw [HR.out]; first | rfl | simp [sndF]), HB.out⟩
      · go_wp2_with fail
        go_ret
        exact ⟨ret_bool (by rw [HR.out]; first | rfl | simp [sndF]), HB.out⟩
    · go_wp2_with fail
      go_ret
      exact ⟨ret_bool (by rw [HR.out]; first | rfl | simp [sndF]), HB.out⟩
  · go_wp2_with fail
    go_ret
    exact ⟨ret_bool (by rw [HR.out]; first | rfl | simp [sndF]), HB.out⟩


end Go.Proofs.Ythbafbgnclpbpaa

namespace Go.Proofs.Ythbafbgnclpbpaa
open Go.RowKit

def lightC (x : CallD) : Bool := lightOp x.op && lightA x.ans
def light39 (xs : List CallD) : Bool := xs.all lightC && decide (xs.length ≤ 40)

set_option maxRecDepth 100000 in
set_option maxHeartbeats 4000000 in
theorem light39_any (A : Option Addr) (c : Nat) (xs : List CallD) (w : World) (h : Cls w A xs.length xs) (hx : ∀ x ∈ xs, CallOk x) (hl : xs.length ≤ 9223372036854775807) :
    Calls Try.prog 52 #[.slice A xs.length c] w (Ret (.bool (light39 xs)) w) := by
  have HH := Lib.hid h
  clear h
  go_enter Try.func52, Try.ntmps52
  go_wp2_with fail
  go_loopw [4, 7] (fun _ i wr => ∃ j : Nat, i = .int .i64 j ∧ Hid (j ≤ xs.length ∧ (∀ (q : Nat) (hq : q < xs.length), q < j → lightC xs[q] = true) ∧ Below w.heap.size w wr)) (fun _ i _ => xs.length - (intOf i).toNat)
  case atStart => exact ⟨0, rfl, Nat.zero_le _, fun q _ hq => absurd hq (Nat.not_lt_zero _), Below.refl _ _⟩
  case round =>
    obtain ⟨j, rfl, H⟩ := hrel
    by_cases hlt : j < xs.length
    · obtain ⟨b, off, hjl, rfl, hbl, hat, hpr⟩ := (HH.out.up H.out.2.2).at_ hlt
      have hok := hx _ (List.getElem_mem hlt)
      have HNX := Lib.hid (fun (g : lightC xs[j] = true) (q : Nat) (hq : q < xs.length) (hqj : q < j + 1) => show lightC xs[q] = true from by
        rcases Nat.lt_succ_iff_lt_or_eq.1 hqj with g2 | rfl
        · exact H.out.2.1 q hq g2
        · exact g)
      have HNO := Lib.hid (fun (g : lightC xs[j] = false) => show false = light39 xs from by
        unfold light39
        cases hall : xs.all lightC
        · rfl
        · rw [List.all_eq_true] at hall
          rw [hall _ (List.getElem_mem hlt)] at g
          cases g)
      have HB0 := Lib.hid H.out.2.2
      clear H
      generalize xs[j] = x at hat hpr hok HNX HNO
      clear hjl
      have hlc : lightC x = (lightOp x.op && lightA x.ans) := rfl
      have e1 : light16 [x.op] = lightOp x.op := by unfold light16; simp
      obtain ⟨d0, d1, d2, d3, d4, d5, d6, d7, d8, d9, d10, d11, d12, d13, d14⟩ := hat
      have hn := CallAt.new wr x 71
      have hb1 := below_alloc wr (.cells (callCells x) 71)
      have hb2 := below_alloc (wr.alloc (.cells (callCells x) 71)) (.cells (opCells x.op) 58)
      have HL1 := Lib.hid (light16_any (some ⟨(wr.alloc (.cells (callCells x) 71)).heap.size, 0, none⟩) 1 [x.op] ((wr.alloc (.cells (callCells x) 71)).alloc (.cells (opCells x.op) 58))
        (fun _ => ⟨_, 0, rfl, by simp, fun q hq k v hk => by
          obtain rfl : q = 0 := by simpa using hq
          simp only [List.getElem_cons_zero] at hk
          simp only [Nat.zero_mul, Nat.zero_add]
          exact new_cell _ _ 58 k v hk⟩) (by intro y hy; rw [List.mem_singleton] at hy; subst hy; exact hok.op) (by simp))
      rw [e1] at HL1
      have HL2 := Lib.hid (fun W (hW : Prs W x.pa x.ans.pairs.length x.ans.pairs) => light17_any x.ans x.pa x.pc W hW hok.ans)
      have HP := Lib.hid (hpr.up (below_of hb1 hb2))
      have hn2 := hn.up hb2 (by simp)
      have hgz : wr.heap.size < ((wr.alloc (.cells (callCells x) 71)).alloc (.cells (opCells x.op) 58)).heap.size := by simp; omega
      have HB4 := Lib.hid (below_of (below_of HB0.out hb1) hb2)
      clear hb1 hb2 hpr e1 hok HB0
      generalize lightC x = lc at hlc HNX HNO
      generalize lightOp x.op = lo at HL1 hlc
      generalize lightA x.ans = la at HL2 hlc
      have HLC := Lib.hid hlc
      clear hlc
      obtain ⟨thread, ⟨kind, key, oupto, val, limit⟩, since, done, upto, steps, short, ⟨code, akey, aval, pairs⟩, pa, pc⟩ := x
      simp only [callCells, opCells, ansCells, List.length_singleton] at d0 d1 d2 d3 d4 d5 d6 d7 d8 d9 d10 d11 d12 d13 d14 hn hn2 HL1 HL2 HP HB4 hgz
      have HN2 := Lib.hid (And.intro hn2 hgz)
      clear hn2 hgz
      go_upto_region 4 with fail
      generalize wr.alloc _ = V at hn HN2 HL1 HP HB4 ⊢
      obtain ⟨x0, x1, x2, x3, x4, x5, x6, x7, x8, x9, x10, x11, x12, x13, x14⟩ := hn
      simp only [Nat.zero_add] at x0 x1 x2 x3 x4 x5 x6 x7 x8 x9 x10 x11 x12 x13 x14
      clear d0 d1 d2 d3 d4 d5 d6 d7 d8 d9 d10 d11 d12 d13 d14
      go_wp2_with fail
      refine HL1.out.mono ?_
      rintro e wn ⟨rfl, hbn⟩
      replace HB4 := Lib.hid (below_of HB4.out hbn)
      replace HP := Lib.hid (HP.out.up hbn)
      clear x0 x1 x2 x3 x4 x5 x6 x7 x8 x9 x10 x11 x12 x13 x14
      obtain ⟨x0, x1, x2, x3, x4, x5, x6, x7, x8, x9, x10, x11, x12, x13, x14⟩ := HN2.out.1.up hbn HN2.out.2
      simp only [Nat.zero_add] at x0 x1 x2 x3 x4 x5 x6 x7 x8 x9 x10 x11 x12 x13 x14
      clear HN2 hbn HL1
      cases lo
      · go_wp2_with fail
        go_ret
        exact ⟨ret_bool (HNO.out (by rw [HLC.out]; rfl)), HB4.out⟩
      · go_wp2_with fail
        refine (HL2.out _ HP.out).mono ?_
        rintro e wn2 ⟨rfl, hbn⟩
        replace HB4 := Lib.hid (below_of HB4.out hbn)
        cases la
        · go_wp2_with fail
          go_ret
          exact ⟨ret_bool (HNO.out (by rw [HLC.out]; rfl)), HB4.out⟩
        · have HNY := Lib.hid (HNX.out (by rw [HLC.out]; rfl))
          go_wp2_with fail
          go_roundw
          case rel => exact ⟨j + 1, by go_num, by omega, HNY.out, HB4.out⟩
          case measure => simp [intOf]; omega
    · have hall : xs.all lightC = true := by
        rw [List.all_eq_true]
        intro x hxm
        obtain ⟨q, hq, rfl⟩ := List.getElem_of_mem hxm
        exact H.out.2.1 q hq (by omega)
      have HF := Lib.hid (show decide ((xs.length : Int) ≤ 40) = light39 xs from by
        unfold light39
        rw [hall, Bool.true_and, Bool.eq_iff_iff, decide_eq_true_iff, decide_eq_true_iff]
        omega)
      clear hall
      go_wp2_with fail
      go_ret
      exact ⟨ret_bool HF.out, H.out.2.2⟩

/-- Of two calls of a history, the one ahead and another one. -/
def pairB (a b : CallD) : Bool := decide (a.since < b.since) && (!decide (a.thread = b.thread) || beforeB a b)
def callZ : CallD := ⟨0, ⟨0, ⟨#[]⟩, ⟨#[]⟩, 0, 0⟩, 0, 0, 0, 0, false, ⟨0, ⟨#[]⟩, 0, []⟩, none, 0⟩
def mayC (xs : List CallD) : Bool := (List.range xs.length).all fun i => sndC (xs.getD i callZ) && (List.range i).all fun k => pairB (xs.getD k callZ) (xs.getD i callZ)
theorem cgetD {xs : List CallD} {i : Nat} (h : i < xs.length) : xs.getD i callZ = xs[i] := by rw [List.getD_eq_getElem?_getD, List.getElem?_eq_getElem h]; rfl
theorem mayC_iff (xs : List CallD) : mayC xs = true ↔ ∀ i (hi : i < xs.length), sndC xs[i] = true ∧ ∀ k (hk : k < i), pairB (xs[k]'(Nat.lt_trans hk hi)) xs[i] = true := by
  unfold mayC
  simp only [List.all_eq_true, List.mem_range, Bool.and_eq_true]
  constructor
  · intro h i hi
    have h1 := h i hi
    rw [cgetD hi] at h1
    refine ⟨h1.1, fun k hk => ?_⟩
    have h2 := h1.2 k hk
    rwa [cgetD (Nat.lt_trans hk hi)] at h2
  · intro h i hi
    obtain ⟨h1, h2⟩ := h i hi
    rw [cgetD hi]
    refine ⟨h1, fun k hk => ?_⟩
    rw [cgetD (Nat.lt_trans hk hi)]
    exact h2 k hk
theorem mayC_no {xs : List CallD} {i : Nat} (hi : i < xs.length) (h : sndC xs[i] = false ∨ ∃ k, ∃ hk : k < i, pairB (xs[k]'(Nat.lt_trans hk hi)) xs[i] = false) : mayC xs = false := by
  cases hm : mayC xs
  · rfl
  · obtain ⟨h1, h2⟩ := (mayC_iff xs).1 hm i hi
    rcases h with h | ⟨k, hk, h⟩
    · rw [h] at h1; cases h1
    · rw [h2 k hk] at h; cases h

/-- Where a thread's last call is among so many, and 1. -/
def lastI (xs : List CallD) (t : Int) : Nat → Nat
  | 0 => 0
  | i + 1 => if (xs.getD i callZ).thread = t then i + 1 else lastI xs t i
theorem lastI_le (xs : List CallD) (t : Int) : ∀ i, lastI xs t i ≤ i
  | 0 => Nat.le_refl _
  | i + 1 => by
    unfold lastI
    split
    · exact Nat.le_refl _
    · exact Nat.le_succ_of_le (lastI_le xs t i)
theorem lastI_is {xs : List CallD} {t : Int} : ∀ {i : Nat}, i ≤ xs.length → 0 < lastI xs t i → ∃ h : lastI xs t i - 1 < xs.length, xs[lastI xs t i - 1].thread = t
  | 0, _, h => absurd h (Nat.lt_irrefl 0)
  | i + 1, hi, h => by
    by_cases e : (xs.getD i callZ).thread = t
    · have e2 : lastI xs t (i + 1) = i + 1 := by unfold lastI; rw [if_pos e]
      rw [cgetD (show i < xs.length by omega)] at e
      simp only [e2, Nat.add_sub_cancel]
      exact ⟨by omega, e⟩
    · have e2 : lastI xs t (i + 1) = lastI xs t i := by rw [lastI, if_neg e]
      rw [e2] at h
      simp only [e2]
      exact lastI_is (by omega) h
theorem lastI_ge {xs : List CallD} {t : Int} : ∀ {i k : Nat} (hk : k < i) (hi : i ≤ xs.length), (xs[k]'(Nat.lt_of_lt_of_le hk hi)).thread = t → k < lastI xs t i
  | i + 1, k, hk, hi, h => by
    by_cases e : (xs.getD i callZ).thread = t
    · unfold lastI; rw [if_pos e]; exact hk
    · rw [lastI, if_neg e]
      rcases Nat.lt_succ_iff_lt_or_eq.1 hk with g | rfl
      · exact lastI_ge g (by omega) h
      · rw [cgetD (show k < xs.length by omega)] at e
        exact absurd h e

theorem before_mono {a b c : CallD} (h : beforeB a b = true) (hbc : b.since < c.since) : beforeB a c = true := by
  unfold beforeB at h ⊢
  rw [Bool.and_eq_true, decide_eq_true_iff, decide_eq_true_iff] at h ⊢
  exact ⟨h.1, by omega⟩

/-- One call more, looked at as the program does. -/
theorem may_step {xs : List CallD} {i : Nat} (hi : i < xs.length) (hpre : ∀ q (hq : q < xs.length), q < i → ∀ k (hk : k < q), pairB (xs[k]'(Nat.lt_trans hk hq)) xs[q] = true)
    (h1 : ∀ (h0 : 0 < i), (xs[i - 1]'(by omega)).since < xs[i].since) (h2 : ∀ (h0 : 0 < lastI xs xs[i].thread i) (hl : lastI xs xs[i].thread i - 1 < xs.length), beforeB xs[lastI xs xs[i].thread i - 1] xs[i] = true) :
    ∀ k (hk : k < i), pairB (xs[k]'(Nat.lt_trans hk hi)) xs[i] = true := by
  intro k hk
  have hs : ∀ k (hk : k < i), (xs[k]'(Nat.lt_trans hk hi)).since < xs[i].since := by
    intro k hk
    have hp := h1 (by omega)
    by_cases e : k = i - 1
    · subst e; exact hp
    · have := hpre (i - 1) (by omega) (by omega) k (by omega)
      unfold pairB at this
      rw [Bool.and_eq_true, decide_eq_true_iff] at this
      omega
  unfold pairB
  rw [decide_eq_true (hs k hk), Bool.true_and, Bool.or_eq_true]
  by_cases e : (xs[k]'(Nat.lt_trans hk hi)).thread = xs[i].thread
  · right
    have hg := lastI_ge hk (Nat.le_of_lt hi) e
    obtain ⟨hl, ht⟩ := lastI_is (t := xs[i].thread) (Nat.le_of_lt hi) (by omega)
    have hle := lastI_le xs xs[i].thread i
    have hb := h2 (by omega) hl
    by_cases e2 : k = lastI xs xs[i].thread i - 1
    · simp only [e2]; exact hb
    · have hp := hpre _ hl (by omega) k (by omega)
      unfold pairB at hp
      rw [Bool.and_eq_true, Bool.or_eq_true, Bool.not_eq_true', decide_eq_false_iff_not] at hp
      rcases hp.2 with g | g
      · exact absurd (e.trans ht.symm) g
      · exact before_mono g (hs _ (by omega))
  · left
    rw [decide_eq_false e]
    rfl

end Go.Proofs.Ythbafbgnclpbpaa

namespace Go.Proofs.Ythbafbgnclpbpaa
open Go.RowKit

theorem Cls.get {w : World} {b off n : Nat} {xs : List CallD} (h : Cls w (some ⟨b, off, none⟩) n xs) {j : Nat} (hj : j < n) : b < w.heap.size ∧ ∃ hjl : j < xs.length, CallAt w b (off + j * 15) xs[j] := by
  obtain ⟨b', off', hjl, e, hb, hat, _⟩ := h.at_ hj
  injection e with e
  injection e with e1 e2
  subst e1; subst e2
  exact ⟨hb, hjl, hat⟩
theorem snd_thread {x : CallD} (h : sndC x = true) : 0 ≤ x.thread ∧ x.thread < 16 := by
  unfold sndC sndF at h
  simp only [Bool.and_eq_true, Bool.not_eq_true', Bool.or_eq_false_iff, decide_eq_false_iff_not] at h
  omega
theorem CallAt.moved {w w' : World} {b o : Nat} {x : CallD} {B : Nat} (h : CallAt w b o x) (hb : Below B w w') (hg : b < B) : CallAt w' b o x := by
  obtain ⟨h0, h1, h2, h3, h4, h5, h6, h7, h8, h9, h10, h11, h12, h13, h14⟩ := h
  have k := fun (i : Nat) => hb.cell (p := ⟨b, i, none⟩) hg
  exact ⟨(k _).trans h0, (k _).trans h1, (k _).trans h2, (k _).trans h3, (k _).trans h4, (k _).trans h5, (k _).trans h6, (k _).trans h7, (k _).trans h8, (k _).trans h9, (k _).trans h10, (k _).trans h11, (k _).trans h12, (k _).trans h13, (k _).trans h14⟩
theorem int_cell {W : World} {g : Nat} {L : List Int} {T : TypeId} (h : W.heap[g]? = some (.cells (i64s L).toArray T (0, 0))) (t : Nat) (ht : t < L.length) : W.cell? ⟨g, t, none⟩ = some (.int .i64 L[t]) := by
  simp [World.cell?, h, i64s, ht]
theorem call_facts {W : World} {g : Nat} {x : CallD} {T : TypeId} (h : W.heap[g]? = some (.cells (callCells x) T (0, 0))) : CallAt W g 0 x :=
  CallAt.of fun k v hk => by
    rw [Nat.zero_add]
    simp only [World.cell?, h]
    exact hk
theorem last_next {xs : List CallD} {j : Nat} {L : List Int} (hj : j < xs.length) (hL : L.length = 16) (h : ∀ (t : Nat) (ht : t < L.length), L[t] = (lastI xs t j : Int)) {t0 : Nat} (ht0 : xs[j].thread = (t0 : Int)) :
    ∀ (t : Nat) (ht : t < (L.set t0 ((j + 1 : Nat) : Int)).length), (L.set t0 ((j + 1 : Nat) : Int))[t] = (lastI xs t (j + 1) : Int) := by
  intro t ht
  rw [List.length_set] at ht
  rw [List.getElem_set, lastI, cgetD hj, ht0]
  by_cases e : t0 = t
  · rw [if_pos e, if_pos (by rw [e])]
  · rw [if_neg e, if_neg (by omega)]
    exact h t ht

set_option maxRecDepth 100000 in
set_option maxHeartbeats 16000000 in
theorem ccheck_any (A : Option Addr) (c : Nat) (xs : List CallD) (w : World) (h : Cls w A xs.length xs) (hx : ∀ x ∈ xs, CallOk x) (hl : xs.length ≤ 1000) :
    Calls Try.prog 54 #[.slice A xs.length c] w (Ret (.int .i64 (if mayC xs = true then 0 else 2)) w) := by
  have HH := Lib.hid h
  have HX := Lib.hid hx
  have HM1 := Lib.hid (fun h => show (if mayC xs = true then (0 : Int) else 2) = 0 from if_pos ((mayC_iff xs).2 h))
  have HM0 := Lib.hid (fun (i : Nat) (hi : i < xs.length) h => show (if mayC xs = true then (0 : Int) else 2) = 2 from if_neg (by rw [mayC_no (xs := xs) (i := i) hi h]; exact Bool.false_ne_true))
  generalize (if mayC xs = true then (0 : Int) else 2) = r at HM1 HM0 ⊢
  obtain ⟨L0, hL0⟩ : ∃ L0, L0 = List.replicate 16 (0 : Int) := ⟨_, rfl⟩
  have hmk : (Instr.makeSlice 90 (.int .i64 16) (.int .i64 16)).run Try.prog w = .ok (.slice (some ⟨w.heap.size, 0, none⟩) 16 16) (w.alloc (.cells (i64s L0).toArray 3)) := by rw [hL0]; exact joinI_make 16 (by omega) w
  have hS := Lib.hid ((Sx.start0 w).alloc (.cells (i64s L0).toArray 3))
  have HL0 := Lib.hid hL0
  clear hL0
  clear h hx
  go_enter Try.func54, Try.ntmps54
  go_upto_region 2 with fail
  generalize w.alloc _ = W at hS ⊢
  clear hmk
  simp only [List.nil_append] at hS
  go_wp2_with fail
  go_loopw [4, 6, 10] (fun _ _ i wr => ∃ (j : Nat) (L : List Int), i = .int .i64 j ∧ Hid (j ≤ xs.length ∧ (∀ q (hq : q < xs.length), q < j → sndC xs[q] = true ∧ ∀ k (hk : k < q), pairB (xs[k]'(Nat.lt_trans hk hq)) xs[q] = true) ∧ L.length = 16 ∧ (∀ (t : Nat) (ht : t < L.length), L[t] = (lastI xs t j : Int)) ∧
    Sx w.heap.size w wr [(w.heap.size, .cells (i64s L).toArray 3)])) (fun _ _ i _ => xs.length - (intOf i).toNat)
  case atStart => exact ⟨0, L0, rfl, Nat.zero_le _, fun q _ hq => absurd hq (Nat.not_lt_zero _), by rw [HL0.out]; rfl, fun t ht => by simp only [HL0.out, List.getElem_replicate]; rfl, hS.out⟩
  case round =>
    obtain ⟨j, L, rfl, H⟩ := hrel
    clear hS
    by_cases hlt : j < xs.length
    · obtain ⟨b, off, hjl, rfl, hbl, hat, hpr⟩ := (HH.out.up H.out.2.2.2.2.below).at_ hlt
      have hok := HX.out _ (List.getElem_mem hlt)
      have HPJ := Lib.hid (fun (h0 : 0 < j) (h1 : xs[j].since ≤ (xs[j - 1]'(by omega)).since) => HM0.out j hlt (.inr ⟨j - 1, by omega, by unfold pairB; rw [decide_eq_false (by omega)]; rfl⟩))
      have HPS := Lib.hid (fun (h1 : sndC xs[j] = false) => HM0.out j hlt (.inl h1))
      have HPL := Lib.hid (fun (h0 : 0 < lastI xs xs[j].thread j) (hq : lastI xs xs[j].thread j - 1 < xs.length) (h1 : beforeB xs[lastI xs xs[j].thread j - 1] xs[j] = false) => HM0.out j hlt (.inr ⟨lastI xs xs[j].thread j - 1, by have := lastI_le xs xs[j].thread j; omega, by
        obtain ⟨_, ht⟩ := lastI_is (t := xs[j].thread) (Nat.le_of_lt hlt) h0
        unfold pairB; rw [h1, ht, decide_eq_true rfl]; simp⟩))
      have HNXT := Lib.hid (fun (h1 : ∀ (h0 : 0 < j), (xs[j - 1]'(by omega)).since < xs[j].since) h2 => may_step hlt (fun q hq hqj => (H.out.2.1 q hq hqj).2) h1 h2)
      have HLN := Lib.hid (fun (t0 : Nat) (ht0 : xs[j].thread = (t0 : Int)) => last_next hlt H.out.2.2.1 H.out.2.2.2.1 ht0)
      have HPRE := Lib.hid H.out.2.1
      have HL16 := Lib.hid (And.intro H.out.2.2.1 H.out.2.2.2.1)
      have hS := Lib.hid H.out.2.2.2.2
      clear H
      have HJL := Lib.hid hlt
      generalize hxj : xs[j] = x at hat hpr hok HPJ HPS HPL HNXT HLN
      have HXJ := Lib.hid hxj
      clear hxj hjl
      obtain ⟨d0, d1, d2, d3, d4, d5, d6, d7, d8, d9, d10, d11, d12, d13, d14⟩ := hat
      replace hS := Lib.hid (hS.out.alloc (.cells (callCells x) 71))
      have HSC := Lib.hid (fun W (hW : Prs W x.pa x.ans.pairs.length x.ans.pairs) => csound_any x W hok hW)
      have HP := Lib.hid (hpr.up (below_alloc wr (.cells (callCells x) 71)))
      have HBF := Lib.hid (fun (y : CallD) W => before_any y x W)
      have HTH := Lib.hid (fun (q : sndC x = true) => snd_thread q)
      clear hpr hok
      obtain ⟨thread, ⟨kind, key, oupto, val, limit⟩, since, done, upto, steps, short, ⟨code, akey, aval, pairs⟩, pa, pc⟩ := x
      simp only [callCells, List.cons_append, List.nil_append] at d0 d1 d2 d3 d4 d5 d6 d7 d8 d9 d10 d11 d12 d13 d14 hS HSC HP
      simp only [] at HPJ HPL HLN HTH
      go_upto_region 5 with fail
      clear d0 d1 d2 d3 d4 d5 d6 d7 d8 d9 d10 d11 d12 d13 d14
      generalize wr.alloc _ = W1 at hS HP ⊢
      generalize wr.heap.size = g1 at hS ⊢
      replace HP := Lib.hid (HP.out.up (Below.drew (Below.refl W1.heap.size W1)))
      have hd := Below.drew (Below.refl W1.heap.size W1)
      replace hS := Lib.hid (hS.out.call hd)
      clear hd
      refine wp_region_held_drew (S := fun w' => Sx w.heap.size w w' [(w.heap.size, .cells (i64s L).toArray 3), (g1, .cells #[.int .i64 thread, .int .i64 kind, .string key, .string oupto, .int .u64 (val : Int), .int .i64 limit, .int .i64 since, .int .i64 done, .int .i64 upto, .int .i64 steps, .bool short, .int .i64 code, .string akey, .int .u64 (aval : Int), .slice pa pairs.length pc] 71)]) (by kernel_rfl) hS.out (fun hcur => ?_)
      (try dsimp only at hcur)
      generalize W1.drew = X at hS HP hcur ⊢
      generalize hsb : sndC ⟨thread, ⟨kind, key, oupto, val, limit⟩, since, done, upto, steps, short, ⟨code, akey, aval, pairs⟩, pa, pc⟩ = sb at HSC HPS HTH
      have HSB := Lib.hid hsb
      clear hsb
      refine wpAnyH_take (i := 0) (v := ?_) rfl (by decide +kernel) (by decide +kernel) (by decide +kernel) (fun _ _ _ h => h) (Or.inl ⟨by rfl, ?hy⟩) hcur ?_
      case hy =>
        intro w1 hSw
        (try dsimp only at hSw)
        obtain ⟨x0, x1, x2, x3, x4, x5, x6, x7, x8, x9, x10, x11, x12, x13, x14⟩ := call_facts (x := ⟨thread, ⟨kind, key, oupto, val, limit⟩, since, done, upto, steps, short, ⟨code, akey, aval, pairs⟩, pa, pc⟩) (hSw.has 1 _ _ rfl).1
        simp only [Nat.zero_add] at x0 x1 x2 x3 x4 x5 x6 x7 x8 x9 x10 x11 x12 x13 x14
        go_simp
        (try with_reducible rfl)
      (try simp only [Act.put, List.getElem_toArray, List.getElem_cons_zero, List.getElem_cons_succ, List.setIfInBounds_toArray, List.set_cons_zero, List.set_cons_succ])
      refine wpAnyH_ready (rs := [1]) (by decide +kernel) (by simp) ?_
      refine AllReadyH.cons rfl (fun K hK => ?_) AllReadyH.nil
      go_simp
      refine (HSC.out _ HP.out).mono ?_
      rintro e X1 ⟨rfl, hbn⟩
      replace hS := Lib.hid (hS.out.call hbn)
      go_wp2_with fail
      refine hK.out _ _ (hS.out) (fun hcur2 => ?_)
      clear hK K
      replace hcur := hcur2
      (try dsimp only at hcur)
      clear hcur2
      (try simp only [Act.put, List.getElem_toArray, List.getElem_cons_zero, List.getElem_cons_succ, List.setIfInBounds_toArray, List.set_cons_zero, List.set_cons_succ])
      clear hbn HSC HP
      refine wpAnyH_take (i := 2) (v := ?_) rfl (by decide +kernel) (by decide +kernel) (by decide +kernel) (fun _ _ _ h => h) (Or.inl ⟨by rfl, ?hy⟩) hcur ?_
      case hy =>
        intro w1 hSw
        (try dsimp only at hSw)
        obtain ⟨x0, x1, x2, x3, x4, x5, x6, x7, x8, x9, x10, x11, x12, x13, x14⟩ := call_facts (x := ⟨thread, ⟨kind, key, oupto, val, limit⟩, since, done, upto, steps, short, ⟨code, akey, aval, pairs⟩, pa, pc⟩) (hSw.has 1 _ _ rfl).1
        simp only [Nat.zero_add] at x0 x1 x2 x3 x4 x5 x6 x7 x8 x9 x10 x11 x12 x13 x14
        go_simp
        (try with_reducible rfl)
      (try simp only [Act.put, List.getElem_toArray, List.getElem_cons_zero, List.getElem_cons_succ, List.setIfInBounds_toArray, List.set_cons_zero, List.set_cons_succ])
      refine wpAnyH_take (i := 3) (v := ?_) rfl (by decide +kernel) (by decide +kernel) (by decide +kernel) (fun _ _ _ h => h) (Or.inl ⟨by rfl, ?hy⟩) hcur ?_
      case hy =>
        intro w1 hSw
        (try dsimp only at hSw)
        obtain ⟨x0, x1, x2, x3, x4, x5, x6, x7, x8, x9, x10, x11, x12, x13, x14⟩ := call_facts (x := ⟨thread, ⟨kind, key, oupto, val, limit⟩, since, done, upto, steps, short, ⟨code, akey, aval, pairs⟩, pa, pc⟩) (hSw.has 1 _ _ rfl).1
        simp only [Nat.zero_add] at x0 x1 x2 x3 x4 x5 x6 x7 x8 x9 x10 x11 x12 x13 x14
        go_simp
        (try with_reducible rfl)
      (try simp only [Act.put, List.getElem_toArray, List.getElem_cons_zero, List.getElem_cons_succ, List.setIfInBounds_toArray, List.set_cons_zero, List.set_cons_succ])
      cases sb
      · refine wpAnyH_take (i := 4) rfl (by decide +kernel) (by decide +kernel) (by decide +kernel) (fun _ _ _ h => h) (Or.inr ⟨by rfl, rfl⟩) hcur ?_
        (try simp only [Act.put, List.getElem_toArray, List.getElem_cons_zero, List.getElem_cons_succ, List.setIfInBounds_toArray, List.set_cons_zero, List.set_cons_succ])
        refine wpAnyH_take (i := 5) rfl (by decide +kernel) (by decide +kernel) (by decide +kernel) (fun _ _ _ h => h) (Or.inr ⟨by rfl, rfl⟩) hcur ?_
        (try simp only [Act.put, List.getElem_toArray, List.getElem_cons_zero, List.getElem_cons_succ, List.setIfInBounds_toArray, List.set_cons_zero, List.set_cons_succ])
        refine wpAnyH_take (i := 6) rfl (by decide +kernel) (by decide +kernel) (by decide +kernel) (fun _ _ _ h => h) (Or.inr ⟨by rfl, rfl⟩) hcur ?_
        (try simp only [Act.put, List.getElem_toArray, List.getElem_cons_zero, List.getElem_cons_succ, List.setIfInBounds_toArray, List.set_cons_zero, List.set_cons_succ])
        refine wpAnyH_take (i := 7) rfl (by decide +kernel) (by decide +kernel) (by decide +kernel) (fun _ _ _ h => h) (Or.inr ⟨by rfl, rfl⟩) hcur ?_
        (try simp only [Act.put, List.getElem_toArray, List.getElem_cons_zero, List.getElem_cons_succ, List.setIfInBounds_toArray, List.set_cons_zero, List.set_cons_succ])
        refine wpAnyH_take (i := 8) rfl (by decide +kernel) (by decide +kernel) (by decide +kernel) (fun _ _ _ h => h) (Or.inr ⟨by rfl, rfl⟩) hcur ?_
        (try simp only [Act.put, List.getElem_toArray, List.getElem_cons_zero, List.getElem_cons_succ, List.setIfInBounds_toArray, List.set_cons_zero, List.set_cons_succ])
        refine wpAnyH_take (i := 9) rfl (by decide +kernel) (by decide +kernel) (by decide +kernel) (fun _ _ _ h => h) (Or.inr ⟨by rfl, rfl⟩) hcur ?_
        (try simp only [Act.put, List.getElem_toArray, List.getElem_cons_zero, List.getElem_cons_succ, List.setIfInBounds_toArray, List.set_cons_zero, List.set_cons_succ])
        refine wpAnyH_take (i := 10) rfl (by decide +kernel) (by decide +kernel) (by decide +kernel) (fun _ _ _ h => h) (Or.inr ⟨by rfl, rfl⟩) hcur ?_
        (try simp only [Act.put, List.getElem_toArray, List.getElem_cons_zero, List.getElem_cons_succ, List.setIfInBounds_toArray, List.set_cons_zero, List.set_cons_succ])
        refine wpAnyH_take (i := 11) rfl (by decide +kernel) (by decide +kernel) (by decide +kernel) (fun _ _ _ h => h) (Or.inr ⟨by rfl, rfl⟩) hcur ?_
        (try simp only [Act.put, List.getElem_toArray, List.getElem_cons_zero, List.getElem_cons_succ, List.setIfInBounds_toArray, List.set_cons_zero, List.set_cons_succ])
        refine wpAnyH_take (i := 12) rfl (by decide +kernel) (by decide +kernel) (by decide +kernel) (fun _ _ _ h => h) (Or.inr ⟨by rfl, rfl⟩) hcur ?_
        (try simp only [Act.put, List.getElem_toArray, List.getElem_cons_zero, List.getElem_cons_succ, List.setIfInBounds_toArray, List.set_cons_zero, List.set_cons_succ])
        refine wpAnyH_take (i := 13) rfl (by decide +kernel) (by decide +kernel) (by decide +kernel) (fun _ _ _ h => h) (Or.inr ⟨by rfl, rfl⟩) hcur ?_
        (try simp only [Act.put, List.getElem_toArray, List.getElem_cons_zero, List.getElem_cons_succ, List.setIfInBounds_toArray, List.set_cons_zero, List.set_cons_succ])
        refine wpAnyH_take (i := 14) rfl (by decide +kernel) (by decide +kernel) (by decide +kernel) (fun _ _ _ h => h) (Or.inr ⟨by rfl, rfl⟩) hcur ?_
        (try simp only [Act.put, List.getElem_toArray, List.getElem_cons_zero, List.getElem_cons_succ, List.setIfInBounds_toArray, List.set_cons_zero, List.set_cons_succ])
        refine wpAnyH_take (i := 15) rfl (by decide +kernel) (by decide +kernel) (by decide +kernel) (fun _ _ _ h => h) (Or.inr ⟨by rfl, rfl⟩) hcur ?_
        (try simp only [Act.put, List.getElem_toArray, List.getElem_cons_zero, List.getElem_cons_succ, List.setIfInBounds_toArray, List.set_cons_zero, List.set_cons_succ])
        refine wpAnyH_take (i := 16) rfl (by decide +kernel) (by decide +kernel) (by decide +kernel) (fun _ _ _ h => h) (Or.inr ⟨by rfl, rfl⟩) hcur ?_
        (try simp only [Act.put, List.getElem_toArray, List.getElem_cons_zero, List.getElem_cons_succ, List.setIfInBounds_toArray, List.set_cons_zero, List.set_cons_succ])
        refine wpAnyH_take (i := 17) (v := ?_) rfl (by decide +kernel) (by decide +kernel) (by decide +kernel) (fun _ _ _ h => h) (Or.inl ⟨by rfl, ?hy⟩) hcur ?_
        case hy =>
          intro w1 hSw
          (try dsimp only at hSw)
          obtain ⟨x0, x1, x2, x3, x4, x5, x6, x7, x8, x9, x10, x11, x12, x13, x14⟩ := call_facts (x := ⟨thread, ⟨kind, key, oupto, val, limit⟩, since, done, upto, steps, short, ⟨code, akey, aval, pairs⟩, pa, pc⟩) (hSw.has 1 _ _ rfl).1
          simp only [Nat.zero_add] at x0 x1 x2 x3 x4 x5 x6 x7 x8 x9 x10 x11 x12 x13 x14
          go_simp
          (try with_reducible rfl)
        (try simp only [Act.put, List.getElem_toArray, List.getElem_cons_zero, List.getElem_cons_succ, List.setIfInBounds_toArray, List.set_cons_zero, List.set_cons_succ])
        refine wpAnyH_done (by decide +kernel) ?_ _
        obtain rfl := HPS.out rfl
        go_wp2_with fail
        go_ret
        exact ⟨rfl, hcur.below⟩
      · have HTT := Lib.hid (HTH.out (by trivial))
        clear HTH HPS
        rcases Nat.eq_zero_or_pos j with rfl | hj0
        · refine wpAnyH_take (i := 4) (v := ?_) rfl (by decide +kernel) (by decide +kernel) (by decide +kernel) (fun _ _ _ h => h) (Or.inl ⟨by rfl, ?hy⟩) hcur ?_
          case hy =>
            intro w1 hSw
            (try dsimp only at hSw)
            obtain ⟨x0, x1, x2, x3, x4, x5, x6, x7, x8, x9, x10, x11, x12, x13, x14⟩ := call_facts (x := ⟨thread, ⟨kind, key, oupto, val, limit⟩, since, done, upto, steps, short, ⟨code, akey, aval, pairs⟩, pa, pc⟩) (hSw.has 1 _ _ rfl).1
            simp only [Nat.zero_add] at x0 x1 x2 x3 x4 x5 x6 x7 x8 x9 x10 x11 x12 x13 x14
            go_simp
            (try with_reducible rfl)
          (try simp only [Act.put, List.getElem_toArray, List.getElem_cons_zero, List.getElem_cons_succ, List.setIfInBounds_toArray, List.set_cons_zero, List.set_cons_succ])
          refine wpAnyH_take (i := 5) (v := ?_) rfl (by decide +kernel) (by decide +kernel) (by decide +kernel) (fun _ _ _ h => h) (Or.inl ⟨by rfl, ?hy⟩) hcur ?_
          case hy =>
            intro w1 hSw
            (try dsimp only at hSw)
            obtain ⟨x0, x1, x2, x3, x4, x5, x6, x7, x8, x9, x10, x11, x12, x13, x14⟩ := call_facts (x := ⟨thread, ⟨kind, key, oupto, val, limit⟩, since, done, upto, steps, short, ⟨code, akey, aval, pairs⟩, pa, pc⟩) (hSw.has 1 _ _ rfl).1
            simp only [Nat.zero_add] at x0 x1 x2 x3 x4 x5 x6 x7 x8 x9 x10 x11 x12 x13 x14
            go_simp
            (try with_reducible rfl)
          (try simp only [Act.put, List.getElem_toArray, List.getElem_cons_zero, List.getElem_cons_succ, List.setIfInBounds_toArray, List.set_cons_zero, List.set_cons_succ])
          refine wpAnyH_take (i := 6) (v := ?_) rfl (by decide +kernel) (by decide +kernel) (by decide +kernel) (fun _ _ _ h => h) (Or.inl ⟨by rfl, ?hy⟩) hcur ?_
          case hy =>
            intro w1 hSw
            (try dsimp only at hSw)
            obtain ⟨x0, x1, x2, x3, x4, x5, x6, x7, x8, x9, x10, x11, x12, x13, x14⟩ := call_facts (x := ⟨thread, ⟨kind, key, oupto, val, limit⟩, since, done, upto, steps, short, ⟨code, akey, aval, pairs⟩, pa, pc⟩) (hSw.has 1 _ _ rfl).1
            simp only [Nat.zero_add] at x0 x1 x2 x3 x4 x5 x6 x7 x8 x9 x10 x11 x12 x13 x14
            go_simp
            (try with_reducible rfl)
          (try simp only [Act.put, List.getElem_toArray, List.getElem_cons_zero, List.getElem_cons_succ, List.setIfInBounds_toArray, List.set_cons_zero, List.set_cons_succ])
          refine wpAnyH_take (i := 7) rfl (by decide +kernel) (by decide +kernel) (by decide +kernel) (fun _ _ _ h => h) (Or.inr ⟨by rfl, rfl⟩) hcur ?_
          (try simp only [Act.put, List.getElem_toArray, List.getElem_cons_zero, List.getElem_cons_succ, List.setIfInBounds_toArray, List.set_cons_zero, List.set_cons_succ])
          refine wpAnyH_take (i := 8) rfl (by decide +kernel) (by decide +kernel) (by decide +kernel) (fun _ _ _ h => h) (Or.inr ⟨by rfl, rfl⟩) hcur ?_
          (try simp only [Act.put, List.getElem_toArray, List.getElem_cons_zero, List.getElem_cons_succ, List.setIfInBounds_toArray, List.set_cons_zero, List.set_cons_succ])
          refine wpAnyH_take (i := 9) rfl (by decide +kernel) (by decide +kernel) (by decide +kernel) (fun _ _ _ h => h) (Or.inr ⟨by rfl, rfl⟩) hcur ?_
          (try simp only [Act.put, List.getElem_toArray, List.getElem_cons_zero, List.getElem_cons_succ, List.setIfInBounds_toArray, List.set_cons_zero, List.set_cons_succ])
          refine wpAnyH_take (i := 10) rfl (by decide +kernel) (by decide +kernel) (by decide +kernel) (fun _ _ _ h => h) (Or.inr ⟨by rfl, rfl⟩) hcur ?_
          (try simp only [Act.put, List.getElem_toArray, List.getElem_cons_zero, List.getElem_cons_succ, List.setIfInBounds_toArray, List.set_cons_zero, List.set_cons_succ])
          refine wpAnyH_take (i := 11) rfl (by decide +kernel) (by decide +kernel) (by decide +kernel) (fun _ _ _ h => h) (Or.inr ⟨by rfl, rfl⟩) hcur ?_
          (try simp only [Act.put, List.getElem_toArray, List.getElem_cons_zero, List.getElem_cons_succ, List.setIfInBounds_toArray, List.set_cons_zero, List.set_cons_succ])
          refine wpAnyH_take (i := 12) rfl (by decide +kernel) (by decide +kernel) (by decide +kernel) (fun _ _ _ h => h) (Or.inr ⟨by rfl, rfl⟩) hcur ?_
          (try simp only [Act.put, List.getElem_toArray, List.getElem_cons_zero, List.getElem_cons_succ, List.setIfInBounds_toArray, List.set_cons_zero, List.set_cons_succ])
          refine wpAnyH_take (i := 13) rfl (by decide +kernel) (by decide +kernel) (by decide +kernel) (fun _ _ _ h => h) (Or.inr ⟨by rfl, rfl⟩) hcur ?_
          (try simp only [Act.put, List.getElem_toArray, List.getElem_cons_zero, List.getElem_cons_succ, List.setIfInBounds_toArray, List.set_cons_zero, List.set_cons_succ])
          refine wpAnyH_take (i := 14) rfl (by decide +kernel) (by decide +kernel) (by decide +kernel) (fun _ _ _ h => h) (Or.inr ⟨by rfl, rfl⟩) hcur ?_
          (try simp only [Act.put, List.getElem_toArray, List.getElem_cons_zero, List.getElem_cons_succ, List.setIfInBounds_toArray, List.set_cons_zero, List.set_cons_succ])
          refine wpAnyH_take (i := 15) rfl (by decide +kernel) (by decide +kernel) (by decide +kernel) (fun _ _ _ h => h) (Or.inr ⟨by rfl, rfl⟩) hcur ?_
          (try simp only [Act.put, List.getElem_toArray, List.getElem_cons_zero, List.getElem_cons_succ, List.setIfInBounds_toArray, List.set_cons_zero, List.set_cons_succ])
          refine wpAnyH_take (i := 16) (v := ?_) rfl (by decide +kernel) (by decide +kernel) (by decide +kernel) (fun _ _ _ h => h) (Or.inl ⟨by rfl, ?hy⟩) hcur ?_
          case hy =>
            intro w1 hSw
            (try dsimp only at hSw)
            obtain ⟨x0, x1, x2, x3, x4, x5, x6, x7, x8, x9, x10, x11, x12, x13, x14⟩ := call_facts (x := ⟨thread, ⟨kind, key, oupto, val, limit⟩, since, done, upto, steps, short, ⟨code, akey, aval, pairs⟩, pa, pc⟩) (hSw.has 1 _ _ rfl).1
            simp only [Nat.zero_add] at x0 x1 x2 x3 x4 x5 x6 x7 x8 x9 x10 x11 x12 x13 x14
            go_simp
            (try with_reducible rfl)
          (try simp only [Act.put, List.getElem_toArray, List.getElem_cons_zero, List.getElem_cons_succ, List.setIfInBounds_toArray, List.set_cons_zero, List.set_cons_succ])
          refine wpAnyH_take (i := 17) (v := ?_) rfl (by decide +kernel) (by decide +kernel) (by decide +kernel) (fun _ _ _ h => h) (Or.inl ⟨by rfl, ?hy⟩) hcur ?_
          case hy =>
            intro w1 hSw
            (try dsimp only at hSw)
            obtain ⟨x0, x1, x2, x3, x4, x5, x6, x7, x8, x9, x10, x11, x12, x13, x14⟩ := call_facts (x := ⟨thread, ⟨kind, key, oupto, val, limit⟩, since, done, upto, steps, short, ⟨code, akey, aval, pairs⟩, pa, pc⟩) (hSw.has 1 _ _ rfl).1
            simp only [Nat.zero_add] at x0 x1 x2 x3 x4 x5 x6 x7 x8 x9 x10 x11 x12 x13 x14
            go_simp
            (try with_reducible rfl)
          (try simp only [Act.put, List.getElem_toArray, List.getElem_cons_zero, List.getElem_cons_succ, List.setIfInBounds_toArray, List.set_cons_zero, List.set_cons_succ])
          refine wpAnyH_done (by decide +kernel) ?_ _
          have HNX := Lib.hid (HNXT.out (fun h0 => absurd h0 (Nat.lt_irrefl 0)))
          clear HNXT HPJ
          replace hS := Lib.hid hcur
          clear hcur
          obtain ⟨t0, rfl⟩ := Int.eq_ofNat_of_zero_le HTT.out.1
          have HT16 := Lib.hid (show t0 < 16 by have := HTT.out.2; omega)
          have HLS := Lib.hid (HLN.out t0 rfl)
          obtain ⟨x0, x1, x2, x3, x4, x5, x6, x7, x8, x9, x10, x11, x12, x13, x14⟩ := call_facts (x := ⟨t0, ⟨kind, key, oupto, val, limit⟩, since, done, upto, steps, short, ⟨code, akey, aval, pairs⟩, pa, pc⟩) (hS.out.has 1 _ _ rfl).1
          simp only [Nat.zero_add] at x0 x1 x2 x3 x4 x5 x6 x7 x8 x9 x10 x11 x12 x13 x14
          have hlt0 : t0 < L.length := by rw [HL16.out.1]; exact HT16.out
          have HLT0 := Lib.hid hlt0
          have lt := int_cell (hS.out.has 0 _ _ rfl).1 t0 hlt0
          rw [HL16.out.2 t0 hlt0] at lt
          have HLE := Lib.hid (lastI_le xs (t0 : Int) (0))
          have HLQ := Lib.hid (fun h0 => lastI_is (xs := xs) (t := (t0 : Int)) (i := 0) (Nat.le_of_lt HJL.out) h0)
          (try simp only [] at HNX)
          (try simp only [] at HPL)
          generalize lastI xs (t0 : Int) (0) = kl at lt HLE HLQ HPL HNX
          have htl : (t0 : Int) < 16 := by have := HT16.out; omega
          clear HTT HLN hlt0
          go_upto_region 8 with fail
          clear lt
          clear x0 x1 x2 x3 x4 x5 x6 x7 x8 x9 x10 x11 x12 x13 x14
          have hd := Below.drew (Below.refl X1.heap.size X1)
          replace hS := Lib.hid (hS.out.call hd)
          clear hd
          refine wp_region_held_drew (S := fun w' => Sx w.heap.size w w' [(w.heap.size, .cells (i64s L).toArray 3), (g1, .cells #[.int .i64 (t0 : Int), .int .i64 kind, .string key, .string oupto, .int .u64 (val : Int), .int .i64 limit, .int .i64 since, .int .i64 done, .int .i64 upto, .int .i64 steps, .bool short, .int .i64 code, .string akey, .int .u64 (aval : Int), .slice pa pairs.length pc] 71)]) (by kernel_rfl) hS.out (fun hcur => ?_)
          (try dsimp only at hcur)
          generalize X1.drew = X2 at hS hcur ⊢
          rcases Nat.eq_zero_or_pos kl with rfl | hk0
          · refine wpAnyH_take (i := 0) (v := ?_) rfl (by decide +kernel) (by decide +kernel) (by decide +kernel) (fun _ _ _ h => h) (Or.inl ⟨by rfl, ?hy⟩) hcur ?_
            case hy =>
              intro w1 hSw
              (try dsimp only at hSw)
              obtain ⟨x0, x1, x2, x3, x4, x5, x6, x7, x8, x9, x10, x11, x12, x13, x14⟩ := call_facts (x := ⟨t0, ⟨kind, key, oupto, val, limit⟩, since, done, upto, steps, short, ⟨code, akey, aval, pairs⟩, pa, pc⟩) (hSw.has 1 _ _ rfl).1
              simp only [Nat.zero_add] at x0 x1 x2 x3 x4 x5 x6 x7 x8 x9 x10 x11 x12 x13 x14
              go_simp
              (try with_reducible rfl)
            (try simp only [Act.put, List.getElem_toArray, List.getElem_cons_zero, List.getElem_cons_succ, List.setIfInBounds_toArray, List.set_cons_zero, List.set_cons_succ])
            refine wpAnyH_take (i := 1) (v := ?_) rfl (by decide +kernel) (by decide +kernel) (by decide +kernel) (fun _ _ _ h => h) (Or.inl ⟨by rfl, ?hy⟩) hcur ?_
            case hy =>
              intro w1 hSw
              (try dsimp only at hSw)
              obtain ⟨x0, x1, x2, x3, x4, x5, x6, x7, x8, x9, x10, x11, x12, x13, x14⟩ := call_facts (x := ⟨t0, ⟨kind, key, oupto, val, limit⟩, since, done, upto, steps, short, ⟨code, akey, aval, pairs⟩, pa, pc⟩) (hSw.has 1 _ _ rfl).1
              simp only [Nat.zero_add] at x0 x1 x2 x3 x4 x5 x6 x7 x8 x9 x10 x11 x12 x13 x14
              go_simp
              (try with_reducible rfl)
            (try simp only [Act.put, List.getElem_toArray, List.getElem_cons_zero, List.getElem_cons_succ, List.setIfInBounds_toArray, List.set_cons_zero, List.set_cons_succ])
            refine wpAnyH_take (i := 2) (v := ?_) rfl (by decide +kernel) (by decide +kernel) (by decide +kernel) (fun _ _ _ h => h) (Or.inl ⟨by rfl, ?hy⟩) hcur ?_
            case hy =>
              intro w1 hSw
              (try dsimp only at hSw)
              obtain ⟨x0, x1, x2, x3, x4, x5, x6, x7, x8, x9, x10, x11, x12, x13, x14⟩ := call_facts (x := ⟨t0, ⟨kind, key, oupto, val, limit⟩, since, done, upto, steps, short, ⟨code, akey, aval, pairs⟩, pa, pc⟩) (hSw.has 1 _ _ rfl).1
              simp only [Nat.zero_add] at x0 x1 x2 x3 x4 x5 x6 x7 x8 x9 x10 x11 x12 x13 x14
              go_simp
              (try with_reducible rfl)
            (try simp only [Act.put, List.getElem_toArray, List.getElem_cons_zero, List.getElem_cons_succ, List.setIfInBounds_toArray, List.set_cons_zero, List.set_cons_succ])
            refine wpAnyH_take (i := 3) rfl (by decide +kernel) (by decide +kernel) (by decide +kernel) (fun _ _ _ h => h) (Or.inr ⟨by rfl, rfl⟩) hcur ?_
            (try simp only [Act.put, List.getElem_toArray, List.getElem_cons_zero, List.getElem_cons_succ, List.setIfInBounds_toArray, List.set_cons_zero, List.set_cons_succ])
            refine wpAnyH_take (i := 4) rfl (by decide +kernel) (by decide +kernel) (by decide +kernel) (fun _ _ _ h => h) (Or.inr ⟨by rfl, rfl⟩) hcur ?_
            (try simp only [Act.put, List.getElem_toArray, List.getElem_cons_zero, List.getElem_cons_succ, List.setIfInBounds_toArray, List.set_cons_zero, List.set_cons_succ])
            refine wpAnyH_take (i := 5) rfl (by decide +kernel) (by decide +kernel) (by decide +kernel) (fun _ _ _ h => h) (Or.inr ⟨by rfl, rfl⟩) hcur ?_
            (try simp only [Act.put, List.getElem_toArray, List.getElem_cons_zero, List.getElem_cons_succ, List.setIfInBounds_toArray, List.set_cons_zero, List.set_cons_succ])
            refine wpAnyH_take (i := 6) rfl (by decide +kernel) (by decide +kernel) (by decide +kernel) (fun _ _ _ h => h) (Or.inr ⟨by rfl, rfl⟩) hcur ?_
            (try simp only [Act.put, List.getElem_toArray, List.getElem_cons_zero, List.getElem_cons_succ, List.setIfInBounds_toArray, List.set_cons_zero, List.set_cons_succ])
            refine wpAnyH_take (i := 7) rfl (by decide +kernel) (by decide +kernel) (by decide +kernel) (fun _ _ _ h => h) (Or.inr ⟨by rfl, rfl⟩) hcur ?_
            (try simp only [Act.put, List.getElem_toArray, List.getElem_cons_zero, List.getElem_cons_succ, List.setIfInBounds_toArray, List.set_cons_zero, List.set_cons_succ])
            refine wpAnyH_take (i := 8) rfl (by decide +kernel) (by decide +kernel) (by decide +kernel) (fun _ _ _ h => h) (Or.inr ⟨by rfl, rfl⟩) hcur ?_
            (try simp only [Act.put, List.getElem_toArray, List.getElem_cons_zero, List.getElem_cons_succ, List.setIfInBounds_toArray, List.set_cons_zero, List.set_cons_succ])
            refine wpAnyH_take (i := 9) rfl (by decide +kernel) (by decide +kernel) (by decide +kernel) (fun _ _ _ h => h) (Or.inr ⟨by rfl, rfl⟩) hcur ?_
            (try simp only [Act.put, List.getElem_toArray, List.getElem_cons_zero, List.getElem_cons_succ, List.setIfInBounds_toArray, List.set_cons_zero, List.set_cons_succ])
            refine wpAnyH_take (i := 10) rfl (by decide +kernel) (by decide +kernel) (by decide +kernel) (fun _ _ _ h => h) (Or.inr ⟨by rfl, rfl⟩) hcur ?_
            (try simp only [Act.put, List.getElem_toArray, List.getElem_cons_zero, List.getElem_cons_succ, List.setIfInBounds_toArray, List.set_cons_zero, List.set_cons_succ])
            refine wpAnyH_take (i := 11) (v := ?_) rfl (by decide +kernel) (by decide +kernel) (by decide +kernel) (fun _ _ _ h => h) (Or.inl ⟨by rfl, ?hy⟩) hcur ?_
            case hy =>
              intro w1 hSw
              (try dsimp only at hSw)
              obtain ⟨x0, x1, x2, x3, x4, x5, x6, x7, x8, x9, x10, x11, x12, x13, x14⟩ := call_facts (x := ⟨t0, ⟨kind, key, oupto, val, limit⟩, since, done, upto, steps, short, ⟨code, akey, aval, pairs⟩, pa, pc⟩) (hSw.has 1 _ _ rfl).1
              simp only [Nat.zero_add] at x0 x1 x2 x3 x4 x5 x6 x7 x8 x9 x10 x11 x12 x13 x14
              go_simp
              (try with_reducible rfl)
            (try simp only [Act.put, List.getElem_toArray, List.getElem_cons_zero, List.getElem_cons_succ, List.setIfInBounds_toArray, List.set_cons_zero, List.set_cons_succ])
            refine wpAnyH_done (by decide +kernel) ?_ _
            have HNY := Lib.hid (HNX.out (fun h0 => absurd h0 (Nat.lt_irrefl 0)))
            replace hS := Lib.hid hcur
            clear hcur
            have HPN := Lib.hid (show ∀ q (hq : q < xs.length), q < 0 + 1 → sndC xs[q] = true ∧ ∀ k (hk : k < q), pairB (xs[k]'(Nat.lt_trans hk hq)) xs[q] = true from fun q hq hqj => by
              rcases Nat.lt_succ_iff_lt_or_eq.1 hqj with g | g
              · exact HPRE.out q hq g
              · subst g
                have e := HXJ.out
                exact ⟨(congrArg sndC e).trans HSB.out, fun k hk => (congrArg (pairB _) e).trans (HNY.out k hk)⟩)
            clear HNY HPRE HXJ HSB
            obtain ⟨x0, x1, x2, x3, x4, x5, x6, x7, x8, x9, x10, x11, x12, x13, x14⟩ := call_facts (x := ⟨t0, ⟨kind, key, oupto, val, limit⟩, since, done, upto, steps, short, ⟨code, akey, aval, pairs⟩, pa, pc⟩) (hS.out.has 1 _ _ rfl).1
            simp only [Nat.zero_add] at x0 x1 x2 x3 x4 x5 x6 x7 x8 x9 x10 x11 x12 x13 x14
            have lt := int_cell (hS.out.has 0 _ _ rfl).1 t0 HLT0.out
            have lf := heap_frozen (hS.out.has 0 _ _ rfl).1 t0
            go_upto_region 11 with fail
            clear x0 x1 x2 x3 x4 x5 x6 x7 x8 x9 x10 x11 x12 x13 x14
            clear lt lf
            replace hS := Lib.hid (hS.out.setc 0 rfl t0 (.int .i64 (1)))
            rw [show (i64s L).set t0 (.int .i64 (1)) = i64s (L.set t0 (((0) + 1 : Nat) : Int)) from by rw [show (((0) + 1 : Nat) : Int) = 1 from by omega]; simp [i64s, List.map_set]] at hS
            simp only [List.set_cons_zero] at hS
            generalize World.setCell _ _ _ = X9 at hS ⊢
            go_wp2_with fail
            go_roundw
            case rel => exact ⟨(0) + 1, L.set t0 (((0) + 1 : Nat) : Int), by go_num, by have := HJL.out; omega, HPN.out, by rw [List.length_set]; exact HL16.out.1, HLS.out, hS.out.head⟩
            case measure => simp [intOf]; omega
          · exact absurd HLE.out (Nat.not_le_of_gt hk0)
        · obtain ⟨p, rfl⟩ : ∃ p, j = p + 1 := ⟨j - 1, by omega⟩
          have hpl : p < xs.length := by have := HJL.out; omega
          have HPJ2 := Lib.hid (fun (h1 : since ≤ xs[p].since) => HPJ.out (Nat.succ_pos p) h1)
          have HNX0 := Lib.hid (fun (h1 : xs[p].since < since) => HNXT.out (fun _ => h1))
          have HDP := Lib.hid (And.intro (HH.out.get hpl).1 (HH.out.get hpl).2.2.2.2.2.2.2.2.1)
          clear HNXT HPJ hj0
          generalize xs[p].since = sp at HPJ2 HNX0 HDP
          have hjw : wrap64 (((p + 1 : Nat) : Int) - 1) = (p : Int) := by unfold wrap64; omega
          have hji : IntKind.i64.wrap (p : Int) = (p : Int) := Go.IntWalk.i64_in _ (by omega)
          have hjg : decide ((0 : Int) < ((p + 1 : Nat) : Int)) = true := decide_eq_true (by omega)
          have hpx : (p : Int) < (xs.length : Int) := by omega
          by_cases hsp : since ≤ sp
          · have hspb : decide (since ≤ sp) = true := decide_eq_true hsp
            refine wpAnyH_take (i := 4) (v := ?_) rfl (by decide +kernel) (by decide +kernel) (by decide +kernel) (fun _ _ _ h => h) (Or.inl ⟨by rfl, ?hy⟩) hcur ?_
            case hy =>
              intro w1 hSw
              (try dsimp only at hSw)
              obtain ⟨x0, x1, x2, x3, x4, x5, x6, x7, x8, x9, x10, x11, x12, x13, x14⟩ := call_facts (x := ⟨thread, ⟨kind, key, oupto, val, limit⟩, since, done, upto, steps, short, ⟨code, akey, aval, pairs⟩, pa, pc⟩) (hSw.has 1 _ _ rfl).1
              simp only [Nat.zero_add] at x0 x1 x2 x3 x4 x5 x6 x7 x8 x9 x10 x11 x12 x13 x14
              go_simp
              (try with_reducible rfl)
            (try simp only [Act.put, List.getElem_toArray, List.getElem_cons_zero, List.getElem_cons_succ, List.setIfInBounds_toArray, List.set_cons_zero, List.set_cons_succ])
            refine wpAnyH_take (i := 5) (v := ?_) rfl (by decide +kernel) (by decide +kernel) (by decide +kernel) (fun _ _ _ h => h) (Or.inl ⟨by rfl, ?hy⟩) hcur ?_
            case hy =>
              intro w1 hSw
              (try dsimp only at hSw)
              obtain ⟨x0, x1, x2, x3, x4, x5, x6, x7, x8, x9, x10, x11, x12, x13, x14⟩ := call_facts (x := ⟨thread, ⟨kind, key, oupto, val, limit⟩, since, done, upto, steps, short, ⟨code, akey, aval, pairs⟩, pa, pc⟩) (hSw.has 1 _ _ rfl).1
              simp only [Nat.zero_add] at x0 x1 x2 x3 x4 x5 x6 x7 x8 x9 x10 x11 x12 x13 x14
              have dp := (hSw.below.cell (p := ⟨b, off + p * 15 + 6, none⟩) HDP.out.1).trans HDP.out.2
              go_simp
              (try with_reducible rfl)
            (try simp only [Act.put, List.getElem_toArray, List.getElem_cons_zero, List.getElem_cons_succ, List.setIfInBounds_toArray, List.set_cons_zero, List.set_cons_succ])
            refine wpAnyH_take (i := 6) (v := ?_) rfl (by decide +kernel) (by decide +kernel) (by decide +kernel) (fun _ _ _ h => h) (Or.inl ⟨by rfl, ?hy⟩) hcur ?_
            case hy =>
              intro w1 hSw
              (try dsimp only at hSw)
              obtain ⟨x0, x1, x2, x3, x4, x5, x6, x7, x8, x9, x10, x11, x12, x13, x14⟩ := call_facts (x := ⟨thread, ⟨kind, key, oupto, val, limit⟩, since, done, upto, steps, short, ⟨code, akey, aval, pairs⟩, pa, pc⟩) (hSw.has 1 _ _ rfl).1
              simp only [Nat.zero_add] at x0 x1 x2 x3 x4 x5 x6 x7 x8 x9 x10 x11 x12 x13 x14
              have dp := (hSw.below.cell (p := ⟨b, off + p * 15 + 6, none⟩) HDP.out.1).trans HDP.out.2
              go_simp
              (try with_reducible rfl)
            (try simp only [Act.put, List.getElem_toArray, List.getElem_cons_zero, List.getElem_cons_succ, List.setIfInBounds_toArray, List.set_cons_zero, List.set_cons_succ])
            refine wpAnyH_take (i := 7) (v := ?_) rfl (by decide +kernel) (by decide +kernel) (by decide +kernel) (fun _ _ _ h => h) (Or.inl ⟨by rfl, ?hy⟩) hcur ?_
            case hy =>
              intro w1 hSw
              (try dsimp only at hSw)
              obtain ⟨x0, x1, x2, x3, x4, x5, x6, x7, x8, x9, x10, x11, x12, x13, x14⟩ := call_facts (x := ⟨thread, ⟨kind, key, oupto, val, limit⟩, since, done, upto, steps, short, ⟨code, akey, aval, pairs⟩, pa, pc⟩) (hSw.has 1 _ _ rfl).1
              simp only [Nat.zero_add] at x0 x1 x2 x3 x4 x5 x6 x7 x8 x9 x10 x11 x12 x13 x14
              have dp := (hSw.below.cell (p := ⟨b, off + p * 15 + 6, none⟩) HDP.out.1).trans HDP.out.2
              go_simp
              (try with_reducible rfl)
            (try simp only [Act.put, List.getElem_toArray, List.getElem_cons_zero, List.getElem_cons_succ, List.setIfInBounds_toArray, List.set_cons_zero, List.set_cons_succ])
            refine wpAnyH_take (i := 8) (v := ?_) rfl (by decide +kernel) (by decide +kernel) (by decide +kernel) (fun _ _ _ h => h) (Or.inl ⟨by rfl, ?hy⟩) hcur ?_
            case hy =>
              intro w1 hSw
              (try dsimp only at hSw)
              obtain ⟨x0, x1, x2, x3, x4, x5, x6, x7, x8, x9, x10, x11, x12, x13, x14⟩ := call_facts (x := ⟨thread, ⟨kind, key, oupto, val, limit⟩, since, done, upto, steps, short, ⟨code, akey, aval, pairs⟩, pa, pc⟩) (hSw.has 1 _ _ rfl).1
              simp only [Nat.zero_add] at x0 x1 x2 x3 x4 x5 x6 x7 x8 x9 x10 x11 x12 x13 x14
              have dp := (hSw.below.cell (p := ⟨b, off + p * 15 + 6, none⟩) HDP.out.1).trans HDP.out.2
              go_simp
              (try with_reducible rfl)
            (try simp only [Act.put, List.getElem_toArray, List.getElem_cons_zero, List.getElem_cons_succ, List.setIfInBounds_toArray, List.set_cons_zero, List.set_cons_succ])
            refine wpAnyH_take (i := 9) (v := ?_) rfl (by decide +kernel) (by decide +kernel) (by decide +kernel) (fun _ _ _ h => h) (Or.inl ⟨by rfl, ?hy⟩) hcur ?_
            case hy =>
              intro w1 hSw
              (try dsimp only at hSw)
              obtain ⟨x0, x1, x2, x3, x4, x5, x6, x7, x8, x9, x10, x11, x12, x13, x14⟩ := call_facts (x := ⟨thread, ⟨kind, key, oupto, val, limit⟩, since, done, upto, steps, short, ⟨code, akey, aval, pairs⟩, pa, pc⟩) (hSw.has 1 _ _ rfl).1
              simp only [Nat.zero_add] at x0 x1 x2 x3 x4 x5 x6 x7 x8 x9 x10 x11 x12 x13 x14
              have dp := (hSw.below.cell (p := ⟨b, off + p * 15 + 6, none⟩) HDP.out.1).trans HDP.out.2
              go_simp
              (try with_reducible rfl)
            (try simp only [Act.put, List.getElem_toArray, List.getElem_cons_zero, List.getElem_cons_succ, List.setIfInBounds_toArray, List.set_cons_zero, List.set_cons_succ])
            refine wpAnyH_take (i := 10) (v := ?_) rfl (by decide +kernel) (by decide +kernel) (by decide +kernel) (fun _ _ _ h => h) (Or.inl ⟨by rfl, ?hy⟩) hcur ?_
            case hy =>
              intro w1 hSw
              (try dsimp only at hSw)
              obtain ⟨x0, x1, x2, x3, x4, x5, x6, x7, x8, x9, x10, x11, x12, x13, x14⟩ := call_facts (x := ⟨thread, ⟨kind, key, oupto, val, limit⟩, since, done, upto, steps, short, ⟨code, akey, aval, pairs⟩, pa, pc⟩) (hSw.has 1 _ _ rfl).1
              simp only [Nat.zero_add] at x0 x1 x2 x3 x4 x5 x6 x7 x8 x9 x10 x11 x12 x13 x14
              have dp := (hSw.below.cell (p := ⟨b, off + p * 15 + 6, none⟩) HDP.out.1).trans HDP.out.2
              go_simp
              (try with_reducible rfl)
            (try simp only [Act.put, List.getElem_toArray, List.getElem_cons_zero, List.getElem_cons_succ, List.setIfInBounds_toArray, List.set_cons_zero, List.set_cons_succ])
            refine wpAnyH_take (i := 11) (v := ?_) rfl (by decide +kernel) (by decide +kernel) (by decide +kernel) (fun _ _ _ h => h) (Or.inl ⟨by rfl, ?hy⟩) hcur ?_
            case hy =>
              intro w1 hSw
              (try dsimp only at hSw)
              obtain ⟨x0, x1, x2, x3, x4, x5, x6, x7, x8, x9, x10, x11, x12, x13, x14⟩ := call_facts (x := ⟨thread, ⟨kind, key, oupto, val, limit⟩, since, done, upto, steps, short, ⟨code, akey, aval, pairs⟩, pa, pc⟩) (hSw.has 1 _ _ rfl).1
              simp only [Nat.zero_add] at x0 x1 x2 x3 x4 x5 x6 x7 x8 x9 x10 x11 x12 x13 x14
              have dp := (hSw.below.cell (p := ⟨b, off + p * 15 + 6, none⟩) HDP.out.1).trans HDP.out.2
              go_simp
              (try with_reducible rfl)
            (try simp only [Act.put, List.getElem_toArray, List.getElem_cons_zero, List.getElem_cons_succ, List.setIfInBounds_toArray, List.set_cons_zero, List.set_cons_succ])
            refine wpAnyH_take (i := 12) (v := ?_) rfl (by decide +kernel) (by decide +kernel) (by decide +kernel) (fun _ _ _ h => h) (Or.inl ⟨by rfl, ?hy⟩) hcur ?_
            case hy =>
              intro w1 hSw
              (try dsimp only at hSw)
              obtain ⟨x0, x1, x2, x3, x4, x5, x6, x7, x8, x9, x10, x11, x12, x13, x14⟩ := call_facts (x := ⟨thread, ⟨kind, key, oupto, val, limit⟩, since, done, upto, steps, short, ⟨code, akey, aval, pairs⟩, pa, pc⟩) (hSw.has 1 _ _ rfl).1
              simp only [Nat.zero_add] at x0 x1 x2 x3 x4 x5 x6 x7 x8 x9 x10 x11 x12 x13 x14
              have dp := (hSw.below.cell (p := ⟨b, off + p * 15 + 6, none⟩) HDP.out.1).trans HDP.out.2
              go_simp
              (try with_reducible rfl)
            (try simp only [Act.put, List.getElem_toArray, List.getElem_cons_zero, List.getElem_cons_succ, List.setIfInBounds_toArray, List.set_cons_zero, List.set_cons_succ])
            refine wpAnyH_take (i := 13) (v := ?_) rfl (by decide +kernel) (by decide +kernel) (by decide +kernel) (fun _ _ _ h => h) (Or.inl ⟨by rfl, ?hy⟩) hcur ?_
            case hy =>
              intro w1 hSw
              (try dsimp only at hSw)
              obtain ⟨x0, x1, x2, x3, x4, x5, x6, x7, x8, x9, x10, x11, x12, x13, x14⟩ := call_facts (x := ⟨thread, ⟨kind, key, oupto, val, limit⟩, since, done, upto, steps, short, ⟨code, akey, aval, pairs⟩, pa, pc⟩) (hSw.has 1 _ _ rfl).1
              simp only [Nat.zero_add] at x0 x1 x2 x3 x4 x5 x6 x7 x8 x9 x10 x11 x12 x13 x14
              have dp := (hSw.below.cell (p := ⟨b, off + p * 15 + 6, none⟩) HDP.out.1).trans HDP.out.2
              go_simp
              (try with_reducible rfl)
            (try simp only [Act.put, List.getElem_toArray, List.getElem_cons_zero, List.getElem_cons_succ, List.setIfInBounds_toArray, List.set_cons_zero, List.set_cons_succ])
            refine wpAnyH_take (i := 14) (v := ?_) rfl (by decide +kernel) (by decide +kernel) (by decide +kernel) (fun _ _ _ h => h) (Or.inl ⟨by rfl, ?hy⟩) hcur ?_
            case hy =>
              intro w1 hSw
              (try dsimp only at hSw)
              obtain ⟨x0, x1, x2, x3, x4, x5, x6, x7, x8, x9, x10, x11, x12, x13, x14⟩ := call_facts (x := ⟨thread, ⟨kind, key, oupto, val, limit⟩, since, done, upto, steps, short, ⟨code, akey, aval, pairs⟩, pa, pc⟩) (hSw.has 1 _ _ rfl).1
              simp only [Nat.zero_add] at x0 x1 x2 x3 x4 x5 x6 x7 x8 x9 x10 x11 x12 x13 x14
              have dp := (hSw.below.cell (p := ⟨b, off + p * 15 + 6, none⟩) HDP.out.1).trans HDP.out.2
              go_simp
              (try with_reducible rfl)
            (try simp only [Act.put, List.getElem_toArray, List.getElem_cons_zero, List.getElem_cons_succ, List.setIfInBounds_toArray, List.set_cons_zero, List.set_cons_succ])
            refine wpAnyH_take (i := 15) (v := ?_) rfl (by decide +kernel) (by decide +kernel) (by decide +kernel) (fun _ _ _ h => h) (Or.inl ⟨by rfl, ?hy⟩) hcur ?_
            case hy =>
              intro w1 hSw
              (try dsimp only at hSw)
              obtain ⟨x0, x1, x2, x3, x4, x5, x6, x7, x8, x9, x10, x11, x12, x13, x14⟩ := call_facts (x := ⟨thread, ⟨kind, key, oupto, val, limit⟩, since, done, upto, steps, short, ⟨code, akey, aval, pairs⟩, pa, pc⟩) (hSw.has 1 _ _ rfl).1
              simp only [Nat.zero_add] at x0 x1 x2 x3 x4 x5 x6 x7 x8 x9 x10 x11 x12 x13 x14
              have dp := (hSw.below.cell (p := ⟨b, off + p * 15 + 6, none⟩) HDP.out.1).trans HDP.out.2
              go_simp
              (try with_reducible rfl)
            (try simp only [Act.put, List.getElem_toArray, List.getElem_cons_zero, List.getElem_cons_succ, List.setIfInBounds_toArray, List.set_cons_zero, List.set_cons_succ])
            refine wpAnyH_take (i := 16) (v := ?_) rfl (by decide +kernel) (by decide +kernel) (by decide +kernel) (fun _ _ _ h => h) (Or.inl ⟨by rfl, ?hy⟩) hcur ?_
            case hy =>
              intro w1 hSw
              (try dsimp only at hSw)
              obtain ⟨x0, x1, x2, x3, x4, x5, x6, x7, x8, x9, x10, x11, x12, x13, x14⟩ := call_facts (x := ⟨thread, ⟨kind, key, oupto, val, limit⟩, since, done, upto, steps, short, ⟨code, akey, aval, pairs⟩, pa, pc⟩) (hSw.has 1 _ _ rfl).1
              simp only [Nat.zero_add] at x0 x1 x2 x3 x4 x5 x6 x7 x8 x9 x10 x11 x12 x13 x14
              have dp := (hSw.below.cell (p := ⟨b, off + p * 15 + 6, none⟩) HDP.out.1).trans HDP.out.2
              go_simp
              (try with_reducible rfl)
            (try simp only [Act.put, List.getElem_toArray, List.getElem_cons_zero, List.getElem_cons_succ, List.setIfInBounds_toArray, List.set_cons_zero, List.set_cons_succ])
            refine wpAnyH_take (i := 17) (v := ?_) rfl (by decide +kernel) (by decide +kernel) (by decide +kernel) (fun _ _ _ h => h) (Or.inl ⟨by rfl, ?hy⟩) hcur ?_
            case hy =>
              intro w1 hSw
              (try dsimp only at hSw)
              obtain ⟨x0, x1, x2, x3, x4, x5, x6, x7, x8, x9, x10, x11, x12, x13, x14⟩ := call_facts (x := ⟨thread, ⟨kind, key, oupto, val, limit⟩, since, done, upto, steps, short, ⟨code, akey, aval, pairs⟩, pa, pc⟩) (hSw.has 1 _ _ rfl).1
              simp only [Nat.zero_add] at x0 x1 x2 x3 x4 x5 x6 x7 x8 x9 x10 x11 x12 x13 x14
              have dp := (hSw.below.cell (p := ⟨b, off + p * 15 + 6, none⟩) HDP.out.1).trans HDP.out.2
              go_simp
              (try with_reducible rfl)
            (try simp only [Act.put, List.getElem_toArray, List.getElem_cons_zero, List.getElem_cons_succ, List.setIfInBounds_toArray, List.set_cons_zero, List.set_cons_succ])
            refine wpAnyH_done (by decide +kernel) ?_ _
            obtain rfl := HPJ2.out hsp
            go_wp2_with fail
            go_ret
            exact ⟨rfl, hcur.below⟩
          · have hspb : decide (since ≤ sp) = false := decide_eq_false hsp
            refine wpAnyH_take (i := 4) (v := ?_) rfl (by decide +kernel) (by decide +kernel) (by decide +kernel) (fun _ _ _ h => h) (Or.inl ⟨by rfl, ?hy⟩) hcur ?_
            case hy =>
              intro w1 hSw
              (try dsimp only at hSw)
              obtain ⟨x0, x1, x2, x3, x4, x5, x6, x7, x8, x9, x10, x11, x12, x13, x14⟩ := call_facts (x := ⟨thread, ⟨kind, key, oupto, val, limit⟩, since, done, upto, steps, short, ⟨code, akey, aval, pairs⟩, pa, pc⟩) (hSw.has 1 _ _ rfl).1
              simp only [Nat.zero_add] at x0 x1 x2 x3 x4 x5 x6 x7 x8 x9 x10 x11 x12 x13 x14
              go_simp
              (try with_reducible rfl)
            (try simp only [Act.put, List.getElem_toArray, List.getElem_cons_zero, List.getElem_cons_succ, List.setIfInBounds_toArray, List.set_cons_zero, List.set_cons_succ])
            refine wpAnyH_take (i := 5) (v := ?_) rfl (by decide +kernel) (by decide +kernel) (by decide +kernel) (fun _ _ _ h => h) (Or.inl ⟨by rfl, ?hy⟩) hcur ?_
            case hy =>
              intro w1 hSw
              (try dsimp only at hSw)
              obtain ⟨x0, x1, x2, x3, x4, x5, x6, x7, x8, x9, x10, x11, x12, x13, x14⟩ := call_facts (x := ⟨thread, ⟨kind, key, oupto, val, limit⟩, since, done, upto, steps, short, ⟨code, akey, aval, pairs⟩, pa, pc⟩) (hSw.has 1 _ _ rfl).1
              simp only [Nat.zero_add] at x0 x1 x2 x3 x4 x5 x6 x7 x8 x9 x10 x11 x12 x13 x14
              have dp := (hSw.below.cell (p := ⟨b, off + p * 15 + 6, none⟩) HDP.out.1).trans HDP.out.2
              go_simp
              (try with_reducible rfl)
            (try simp only [Act.put, List.getElem_toArray, List.getElem_cons_zero, List.getElem_cons_succ, List.setIfInBounds_toArray, List.set_cons_zero, List.set_cons_succ])
            refine wpAnyH_take (i := 6) (v := ?_) rfl (by decide +kernel) (by decide +kernel) (by decide +kernel) (fun _ _ _ h => h) (Or.inl ⟨by rfl, ?hy⟩) hcur ?_
            case hy =>
              intro w1 hSw
              (try dsimp only at hSw)
              obtain ⟨x0, x1, x2, x3, x4, x5, x6, x7, x8, x9, x10, x11, x12, x13, x14⟩ := call_facts (x := ⟨thread, ⟨kind, key, oupto, val, limit⟩, since, done, upto, steps, short, ⟨code, akey, aval, pairs⟩, pa, pc⟩) (hSw.has 1 _ _ rfl).1
              simp only [Nat.zero_add] at x0 x1 x2 x3 x4 x5 x6 x7 x8 x9 x10 x11 x12 x13 x14
              have dp := (hSw.below.cell (p := ⟨b, off + p * 15 + 6, none⟩) HDP.out.1).trans HDP.out.2
              go_simp
              (try with_reducible rfl)
            (try simp only [Act.put, List.getElem_toArray, List.getElem_cons_zero, List.getElem_cons_succ, List.setIfInBounds_toArray, List.set_cons_zero, List.set_cons_succ])
            refine wpAnyH_take (i := 7) (v := ?_) rfl (by decide +kernel) (by decide +kernel) (by decide +kernel) (fun _ _ _ h => h) (Or.inl ⟨by rfl, ?hy⟩) hcur ?_
            case hy =>
              intro w1 hSw
              (try dsimp only at hSw)
              obtain ⟨x0, x1, x2, x3, x4, x5, x6, x7, x8, x9, x10, x11, x12, x13, x14⟩ := call_facts (x := ⟨thread, ⟨kind, key, oupto, val, limit⟩, since, done, upto, steps, short, ⟨code, akey, aval, pairs⟩, pa, pc⟩) (hSw.has 1 _ _ rfl).1
              simp only [Nat.zero_add] at x0 x1 x2 x3 x4 x5 x6 x7 x8 x9 x10 x11 x12 x13 x14
              have dp := (hSw.below.cell (p := ⟨b, off + p * 15 + 6, none⟩) HDP.out.1).trans HDP.out.2
              go_simp
              (try with_reducible rfl)
            (try simp only [Act.put, List.getElem_toArray, List.getElem_cons_zero, List.getElem_cons_succ, List.setIfInBounds_toArray, List.set_cons_zero, List.set_cons_succ])
            refine wpAnyH_take (i := 8) (v := ?_) rfl (by decide +kernel) (by decide +kernel) (by decide +kernel) (fun _ _ _ h => h) (Or.inl ⟨by rfl, ?hy⟩) hcur ?_
            case hy =>
              intro w1 hSw
              (try dsimp only at hSw)
              obtain ⟨x0, x1, x2, x3, x4, x5, x6, x7, x8, x9, x10, x11, x12, x13, x14⟩ := call_facts (x := ⟨thread, ⟨kind, key, oupto, val, limit⟩, since, done, upto, steps, short, ⟨code, akey, aval, pairs⟩, pa, pc⟩) (hSw.has 1 _ _ rfl).1
              simp only [Nat.zero_add] at x0 x1 x2 x3 x4 x5 x6 x7 x8 x9 x10 x11 x12 x13 x14
              have dp := (hSw.below.cell (p := ⟨b, off + p * 15 + 6, none⟩) HDP.out.1).trans HDP.out.2
              go_simp
              (try with_reducible rfl)
            (try simp only [Act.put, List.getElem_toArray, List.getElem_cons_zero, List.getElem_cons_succ, List.setIfInBounds_toArray, List.set_cons_zero, List.set_cons_succ])
            refine wpAnyH_take (i := 9) (v := ?_) rfl (by decide +kernel) (by decide +kernel) (by decide +kernel) (fun _ _ _ h => h) (Or.inl ⟨by rfl, ?hy⟩) hcur ?_
            case hy =>
              intro w1 hSw
              (try dsimp only at hSw)
              obtain ⟨x0, x1, x2, x3, x4, x5, x6, x7, x8, x9, x10, x11, x12, x13, x14⟩ := call_facts (x := ⟨thread, ⟨kind, key, oupto, val, limit⟩, since, done, upto, steps, short, ⟨code, akey, aval, pairs⟩, pa, pc⟩) (hSw.has 1 _ _ rfl).1
              simp only [Nat.zero_add] at x0 x1 x2 x3 x4 x5 x6 x7 x8 x9 x10 x11 x12 x13 x14
              have dp := (hSw.below.cell (p := ⟨b, off + p * 15 + 6, none⟩) HDP.out.1).trans HDP.out.2
              go_simp
              (try with_reducible rfl)
            (try simp only [Act.put, List.getElem_toArray, List.getElem_cons_zero, List.getElem_cons_succ, List.setIfInBounds_toArray, List.set_cons_zero, List.set_cons_succ])
            refine wpAnyH_take (i := 10) (v := ?_) rfl (by decide +kernel) (by decide +kernel) (by decide +kernel) (fun _ _ _ h => h) (Or.inl ⟨by rfl, ?hy⟩) hcur ?_
            case hy =>
              intro w1 hSw
              (try dsimp only at hSw)
              obtain ⟨x0, x1, x2, x3, x4, x5, x6, x7, x8, x9, x10, x11, x12, x13, x14⟩ := call_facts (x := ⟨thread, ⟨kind, key, oupto, val, limit⟩, since, done, upto, steps, short, ⟨code, akey, aval, pairs⟩, pa, pc⟩) (hSw.has 1 _ _ rfl).1
              simp only [Nat.zero_add] at x0 x1 x2 x3 x4 x5 x6 x7 x8 x9 x10 x11 x12 x13 x14
              have dp := (hSw.below.cell (p := ⟨b, off + p * 15 + 6, none⟩) HDP.out.1).trans HDP.out.2
              go_simp
              (try with_reducible rfl)
            (try simp only [Act.put, List.getElem_toArray, List.getElem_cons_zero, List.getElem_cons_succ, List.setIfInBounds_toArray, List.set_cons_zero, List.set_cons_succ])
            refine wpAnyH_take (i := 11) (v := ?_) rfl (by decide +kernel) (by decide +kernel) (by decide +kernel) (fun _ _ _ h => h) (Or.inl ⟨by rfl, ?hy⟩) hcur ?_
            case hy =>
              intro w1 hSw
              (try dsimp only at hSw)
              obtain ⟨x0, x1, x2, x3, x4, x5, x6, x7, x8, x9, x10, x11, x12, x13, x14⟩ := call_facts (x := ⟨thread, ⟨kind, key, oupto, val, limit⟩, since, done, upto, steps, short, ⟨code, akey, aval, pairs⟩, pa, pc⟩) (hSw.has 1 _ _ rfl).1
              simp only [Nat.zero_add] at x0 x1 x2 x3 x4 x5 x6 x7 x8 x9 x10 x11 x12 x13 x14
              have dp := (hSw.below.cell (p := ⟨b, off + p * 15 + 6, none⟩) HDP.out.1).trans HDP.out.2
              go_simp
              (try with_reducible rfl)
            (try simp only [Act.put, List.getElem_toArray, List.getElem_cons_zero, List.getElem_cons_succ, List.setIfInBounds_toArray, List.set_cons_zero, List.set_cons_succ])
            refine wpAnyH_take (i := 12) (v := ?_) rfl (by decide +kernel) (by decide +kernel) (by decide +kernel) (fun _ _ _ h => h) (Or.inl ⟨by rfl, ?hy⟩) hcur ?_
            case hy =>
              intro w1 hSw
              (try dsimp only at hSw)
              obtain ⟨x0, x1, x2, x3, x4, x5, x6, x7, x8, x9, x10, x11, x12, x13, x14⟩ := call_facts (x := ⟨thread, ⟨kind, key, oupto, val, limit⟩, since, done, upto, steps, short, ⟨code, akey, aval, pairs⟩, pa, pc⟩) (hSw.has 1 _ _ rfl).1
              simp only [Nat.zero_add] at x0 x1 x2 x3 x4 x5 x6 x7 x8 x9 x10 x11 x12 x13 x14
              have dp := (hSw.below.cell (p := ⟨b, off + p * 15 + 6, none⟩) HDP.out.1).trans HDP.out.2
              go_simp
              (try with_reducible rfl)
            (try simp only [Act.put, List.getElem_toArray, List.getElem_cons_zero, List.getElem_cons_succ, List.setIfInBounds_toArray, List.set_cons_zero, List.set_cons_succ])
            refine wpAnyH_take (i := 13) (v := ?_) rfl (by decide +kernel) (by decide +kernel) (by decide +kernel) (fun _ _ _ h => h) (Or.inl ⟨by rfl, ?hy⟩) hcur ?_
            case hy =>
              intro w1 hSw
              (try dsimp only at hSw)
              obtain ⟨x0, x1, x2, x3, x4, x5, x6, x7, x8, x9, x10, x11, x12, x13, x14⟩ := call_facts (x := ⟨thread, ⟨kind, key, oupto, val, limit⟩, since, done, upto, steps, short, ⟨code, akey, aval, pairs⟩, pa, pc⟩) (hSw.has 1 _ _ rfl).1
              simp only [Nat.zero_add] at x0 x1 x2 x3 x4 x5 x6 x7 x8 x9 x10 x11 x12 x13 x14
              have dp := (hSw.below.cell (p := ⟨b, off + p * 15 + 6, none⟩) HDP.out.1).trans HDP.out.2
              go_simp
              (try with_reducible rfl)
            (try simp only [Act.put, List.getElem_toArray, List.getElem_cons_zero, List.getElem_cons_succ, List.setIfInBounds_toArray, List.set_cons_zero, List.set_cons_succ])
            refine wpAnyH_take (i := 14) (v := ?_) rfl (by decide +kernel) (by decide +kernel) (by decide +kernel) (fun _ _ _ h => h) (Or.inl ⟨by rfl, ?hy⟩) hcur ?_
            case hy =>
              intro w1 hSw
              (try dsimp only at hSw)
              obtain ⟨x0, x1, x2, x3, x4, x5, x6, x7, x8, x9, x10, x11, x12, x13, x14⟩ := call_facts (x := ⟨thread, ⟨kind, key, oupto, val, limit⟩, since, done, upto, steps, short, ⟨code, akey, aval, pairs⟩, pa, pc⟩) (hSw.has 1 _ _ rfl).1
              simp only [Nat.zero_add] at x0 x1 x2 x3 x4 x5 x6 x7 x8 x9 x10 x11 x12 x13 x14
              have dp := (hSw.below.cell (p := ⟨b, off + p * 15 + 6, none⟩) HDP.out.1).trans HDP.out.2
              go_simp
              (try with_reducible rfl)
            (try simp only [Act.put, List.getElem_toArray, List.getElem_cons_zero, List.getElem_cons_succ, List.setIfInBounds_toArray, List.set_cons_zero, List.set_cons_succ])
            refine wpAnyH_take (i := 15) (v := ?_) rfl (by decide +kernel) (by decide +kernel) (by decide +kernel) (fun _ _ _ h => h) (Or.inl ⟨by rfl, ?hy⟩) hcur ?_
            case hy =>
              intro w1 hSw
              (try dsimp only at hSw)
              obtain ⟨x0, x1, x2, x3, x4, x5, x6, x7, x8, x9, x10, x11, x12, x13, x14⟩ := call_facts (x := ⟨thread, ⟨kind, key, oupto, val, limit⟩, since, done, upto, steps, short, ⟨code, akey, aval, pairs⟩, pa, pc⟩) (hSw.has 1 _ _ rfl).1
              simp only [Nat.zero_add] at x0 x1 x2 x3 x4 x5 x6 x7 x8 x9 x10 x11 x12 x13 x14
              have dp := (hSw.below.cell (p := ⟨b, off + p * 15 + 6, none⟩) HDP.out.1).trans HDP.out.2
              go_simp
              (try with_reducible rfl)
            (try simp only [Act.put, List.getElem_toArray, List.getElem_cons_zero, List.getElem_cons_succ, List.setIfInBounds_toArray, List.set_cons_zero, List.set_cons_succ])
            refine wpAnyH_take (i := 16) (v := ?_) rfl (by decide +kernel) (by decide +kernel) (by decide +kernel) (fun _ _ _ h => h) (Or.inl ⟨by rfl, ?hy⟩) hcur ?_
            case hy =>
              intro w1 hSw
              (try dsimp only at hSw)
              obtain ⟨x0, x1, x2, x3, x4, x5, x6, x7, x8, x9, x10, x11, x12, x13, x14⟩ := call_facts (x := ⟨thread, ⟨kind, key, oupto, val, limit⟩, since, done, upto, steps, short, ⟨code, akey, aval, pairs⟩, pa, pc⟩) (hSw.has 1 _ _ rfl).1
              simp only [Nat.zero_add] at x0 x1 x2 x3 x4 x5 x6 x7 x8 x9 x10 x11 x12 x13 x14
              have dp := (hSw.below.cell (p := ⟨b, off + p * 15 + 6, none⟩) HDP.out.1).trans HDP.out.2
              go_simp
              (try with_reducible rfl)
            (try simp only [Act.put, List.getElem_toArray, List.getElem_cons_zero, List.getElem_cons_succ, List.setIfInBounds_toArray, List.set_cons_zero, List.set_cons_succ])
            refine wpAnyH_take (i := 17) (v := ?_) rfl (by decide +kernel) (by decide +kernel) (by decide +kernel) (fun _ _ _ h => h) (Or.inl ⟨by rfl, ?hy⟩) hcur ?_
            case hy =>
              intro w1 hSw
              (try dsimp only at hSw)
              obtain ⟨x0, x1, x2, x3, x4, x5, x6, x7, x8, x9, x10, x11, x12, x13, x14⟩ := call_facts (x := ⟨thread, ⟨kind, key, oupto, val, limit⟩, since, done, upto, steps, short, ⟨code, akey, aval, pairs⟩, pa, pc⟩) (hSw.has 1 _ _ rfl).1
              simp only [Nat.zero_add] at x0 x1 x2 x3 x4 x5 x6 x7 x8 x9 x10 x11 x12 x13 x14
              have dp := (hSw.below.cell (p := ⟨b, off + p * 15 + 6, none⟩) HDP.out.1).trans HDP.out.2
              go_simp
              (try with_reducible rfl)
            (try simp only [Act.put, List.getElem_toArray, List.getElem_cons_zero, List.getElem_cons_succ, List.setIfInBounds_toArray, List.set_cons_zero, List.set_cons_succ])
            refine wpAnyH_done (by decide +kernel) ?_ _
            have HNX := Lib.hid (HNX0.out (by omega))
            clear HNX0 HPJ2 hspb hsp HDP hjw hjg hpx hji
            replace hS := Lib.hid hcur
            clear hcur
            obtain ⟨t0, rfl⟩ := Int.eq_ofNat_of_zero_le HTT.out.1
            have HT16 := Lib.hid (show t0 < 16 by have := HTT.out.2; omega)
            have HLS := Lib.hid (HLN.out t0 rfl)
            obtain ⟨x0, x1, x2, x3, x4, x5, x6, x7, x8, x9, x10, x11, x12, x13, x14⟩ := call_facts (x := ⟨t0, ⟨kind, key, oupto, val, limit⟩, since, done, upto, steps, short, ⟨code, akey, aval, pairs⟩, pa, pc⟩) (hS.out.has 1 _ _ rfl).1
            simp only [Nat.zero_add] at x0 x1 x2 x3 x4 x5 x6 x7 x8 x9 x10 x11 x12 x13 x14
            have hlt0 : t0 < L.length := by rw [HL16.out.1]; exact HT16.out
            have HLT0 := Lib.hid hlt0
            have lt := int_cell (hS.out.has 0 _ _ rfl).1 t0 hlt0
            rw [HL16.out.2 t0 hlt0] at lt
            have HLE := Lib.hid (lastI_le xs (t0 : Int) (p + 1))
            have HLQ := Lib.hid (fun h0 => lastI_is (xs := xs) (t := (t0 : Int)) (i := p + 1) (Nat.le_of_lt HJL.out) h0)
            (try simp only [] at HNX)
            (try simp only [] at HPL)
            generalize lastI xs (t0 : Int) (p + 1) = kl at lt HLE HLQ HPL HNX
            have htl : (t0 : Int) < 16 := by have := HT16.out; omega
            clear HTT HLN hlt0
            go_upto_region 8 with fail
            clear lt
            clear x0 x1 x2 x3 x4 x5 x6 x7 x8 x9 x10 x11 x12 x13 x14
            have hd := Below.drew (Below.refl X1.heap.size X1)
            replace hS := Lib.hid (hS.out.call hd)
            clear hd
            refine wp_region_held_drew (S := fun w' => Sx w.heap.size w w' [(w.heap.size, .cells (i64s L).toArray 3), (g1, .cells #[.int .i64 (t0 : Int), .int .i64 kind, .string key, .string oupto, .int .u64 (val : Int), .int .i64 limit, .int .i64 since, .int .i64 done, .int .i64 upto, .int .i64 steps, .bool short, .int .i64 code, .string akey, .int .u64 (aval : Int), .slice pa pairs.length pc] 71)]) (by kernel_rfl) hS.out (fun hcur => ?_)
            (try dsimp only at hcur)
            generalize X1.drew = X2 at hS hcur ⊢
            rcases Nat.eq_zero_or_pos kl with rfl | hk0
            · refine wpAnyH_take (i := 0) (v := ?_) rfl (by decide +kernel) (by decide +kernel) (by decide +kernel) (fun _ _ _ h => h) (Or.inl ⟨by rfl, ?hy⟩) hcur ?_
              case hy =>
                intro w1 hSw
                (try dsimp only at hSw)
                obtain ⟨x0, x1, x2, x3, x4, x5, x6, x7, x8, x9, x10, x11, x12, x13, x14⟩ := call_facts (x := ⟨t0, ⟨kind, key, oupto, val, limit⟩, since, done, upto, steps, short, ⟨code, akey, aval, pairs⟩, pa, pc⟩) (hSw.has 1 _ _ rfl).1
                simp only [Nat.zero_add] at x0 x1 x2 x3 x4 x5 x6 x7 x8 x9 x10 x11 x12 x13 x14
                go_simp
                (try with_reducible rfl)
              (try simp only [Act.put, List.getElem_toArray, List.getElem_cons_zero, List.getElem_cons_succ, List.setIfInBounds_toArray, List.set_cons_zero, List.set_cons_succ])
              refine wpAnyH_take (i := 1) (v := ?_) rfl (by decide +kernel) (by decide +kernel) (by decide +kernel) (fun _ _ _ h => h) (Or.inl ⟨by rfl, ?hy⟩) hcur ?_
              case hy =>
                intro w1 hSw
                (try dsimp only at hSw)
                obtain ⟨x0, x1, x2, x3, x4, x5, x6, x7, x8, x9, x10, x11, x12, x13, x14⟩ := call_facts (x := ⟨t0, ⟨kind, key, oupto, val, limit⟩, since, done, upto, steps, short, ⟨code, akey, aval, pairs⟩, pa, pc⟩) (hSw.has 1 _ _ rfl).1
                simp only [Nat.zero_add] at x0 x1 x2 x3 x4 x5 x6 x7 x8 x9 x10 x11 x12 x13 x14
                go_simp
                (try with_reducible rfl)
              (try simp only [Act.put, List.getElem_toArray, List.getElem_cons_zero, List.getElem_cons_succ, List.setIfInBounds_toArray, List.set_cons_zero, List.set_cons_succ])
              refine wpAnyH_take (i := 2) (v := ?_) rfl (by decide +kernel) (by decide +kernel) (by decide +kernel) (fun _ _ _ h => h) (Or.inl ⟨by rfl, ?hy⟩) hcur ?_
              case hy =>
                intro w1 hSw
                (try dsimp only at hSw)
                obtain ⟨x0, x1, x2, x3, x4, x5, x6, x7, x8, x9, x10, x11, x12, x13, x14⟩ := call_facts (x := ⟨t0, ⟨kind, key, oupto, val, limit⟩, since, done, upto, steps, short, ⟨code, akey, aval, pairs⟩, pa, pc⟩) (hSw.has 1 _ _ rfl).1
                simp only [Nat.zero_add] at x0 x1 x2 x3 x4 x5 x6 x7 x8 x9 x10 x11 x12 x13 x14
                go_simp
                (try with_reducible rfl)
              (try simp only [Act.put, List.getElem_toArray, List.getElem_cons_zero, List.getElem_cons_succ, List.setIfInBounds_toArray, List.set_cons_zero, List.set_cons_succ])
              refine wpAnyH_take (i := 3) rfl (by decide +kernel) (by decide +kernel) (by decide +kernel) (fun _ _ _ h => h) (Or.inr ⟨by rfl, rfl⟩) hcur ?_
              (try simp only [Act.put, List.getElem_toArray, List.getElem_cons_zero, List.getElem_cons_succ, List.setIfInBounds_toArray, List.set_cons_zero, List.set_cons_succ])
              refine wpAnyH_take (i := 4) rfl (by decide +kernel) (by decide +kernel) (by decide +kernel) (fun _ _ _ h => h) (Or.inr ⟨by rfl, rfl⟩) hcur ?_
              (try simp only [Act.put, List.getElem_toArray, List.getElem_cons_zero, List.getElem_cons_succ, List.setIfInBounds_toArray, List.set_cons_zero, List.set_cons_succ])
              refine wpAnyH_take (i := 5) rfl (by decide +kernel) (by decide +kernel) (by decide +kernel) (fun _ _ _ h => h) (Or.inr ⟨by rfl, rfl⟩) hcur ?_
              (try simp only [Act.put, List.getElem_toArray, List.getElem_cons_zero, List.getElem_cons_succ, List.setIfInBounds_toArray, List.set_cons_zero, List.set_cons_succ])
              refine wpAnyH_take (i := 6) rfl (by decide +kernel) (by decide +kernel) (by decide +kernel) (fun _ _ _ h => h) (Or.inr ⟨by rfl, rfl⟩) hcur ?_
              (try simp only [Act.put, List.getElem_toArray, List.getElem_cons_zero, List.getElem_cons_succ, List.setIfInBounds_toArray, List.set_cons_zero, List.set_cons_succ])
              refine wpAnyH_take (i := 7) rfl (by decide +kernel) (by decide +kernel) (by decide +kernel) (fun _ _ _ h => h) (Or.inr ⟨by rfl, rfl⟩) hcur ?_
              (try simp only [Act.put, List.getElem_toArray, List.getElem_cons_zero, List.getElem_cons_succ, List.setIfInBounds_toArray, List.set_cons_zero, List.set_cons_succ])
              refine wpAnyH_take (i := 8) rfl (by decide +kernel) (by decide +kernel) (by decide +kernel) (fun _ _ _ h => h) (Or.inr ⟨by rfl, rfl⟩) hcur ?_
              (try simp only [Act.put, List.getElem_toArray, List.getElem_cons_zero, List.getElem_cons_succ, List.setIfInBounds_toArray, List.set_cons_zero, List.set_cons_succ])
              refine wpAnyH_take (i := 9) rfl (by decide +kernel) (by decide +kernel) (by decide +kernel) (fun _ _ _ h => h) (Or.inr ⟨by rfl, rfl⟩) hcur ?_
              (try simp only [Act.put, List.getElem_toArray, List.getElem_cons_zero, List.getElem_cons_succ, List.setIfInBounds_toArray, List.set_cons_zero, List.set_cons_succ])
              refine wpAnyH_take (i := 10) rfl (by decide +kernel) (by decide +kernel) (by decide +kernel) (fun _ _ _ h => h) (Or.inr ⟨by rfl, rfl⟩) hcur ?_
              (try simp only [Act.put, List.getElem_toArray, List.getElem_cons_zero, List.getElem_cons_succ, List.setIfInBounds_toArray, List.set_cons_zero, List.set_cons_succ])
              refine wpAnyH_take (i := 11) (v := ?_) rfl (by decide +kernel) (by decide +kernel) (by decide +kernel) (fun _ _ _ h => h) (Or.inl ⟨by rfl, ?hy⟩) hcur ?_
              case hy =>
                intro w1 hSw
                (try dsimp only at hSw)
                obtain ⟨x0, x1, x2, x3, x4, x5, x6, x7, x8, x9, x10, x11, x12, x13, x14⟩ := call_facts (x := ⟨t0, ⟨kind, key, oupto, val, limit⟩, since, done, upto, steps, short, ⟨code, akey, aval, pairs⟩, pa, pc⟩) (hSw.has 1 _ _ rfl).1
                simp only [Nat.zero_add] at x0 x1 x2 x3 x4 x5 x6 x7 x8 x9 x10 x11 x12 x13 x14
                go_simp
                (try with_reducible rfl)
              (try simp only [Act.put, List.getElem_toArray, List.getElem_cons_zero, List.getElem_cons_succ, List.setIfInBounds_toArray, List.set_cons_zero, List.set_cons_succ])
              refine wpAnyH_done (by decide +kernel) ?_ _
              have HNY := Lib.hid (HNX.out (fun h0 => absurd h0 (Nat.lt_irrefl 0)))
              replace hS := Lib.hid hcur
              clear hcur
              have HPN := Lib.hid (show ∀ q (hq : q < xs.length), q < p + 1 + 1 → sndC xs[q] = true ∧ ∀ k (hk : k < q), pairB (xs[k]'(Nat.lt_trans hk hq)) xs[q] = true from fun q hq hqj => by
                rcases Nat.lt_succ_iff_lt_or_eq.1 hqj with g | g
                · exact HPRE.out q hq g
                · subst g
                  have e := HXJ.out
                  exact ⟨(congrArg sndC e).trans HSB.out, fun k hk => (congrArg (pairB _) e).trans (HNY.out k hk)⟩)
              clear HNY HPRE HXJ HSB
              obtain ⟨x0, x1, x2, x3, x4, x5, x6, x7, x8, x9, x10, x11, x12, x13, x14⟩ := call_facts (x := ⟨t0, ⟨kind, key, oupto, val, limit⟩, since, done, upto, steps, short, ⟨code, akey, aval, pairs⟩, pa, pc⟩) (hS.out.has 1 _ _ rfl).1
              simp only [Nat.zero_add] at x0 x1 x2 x3 x4 x5 x6 x7 x8 x9 x10 x11 x12 x13 x14
              have lt := int_cell (hS.out.has 0 _ _ rfl).1 t0 HLT0.out
              have lf := heap_frozen (hS.out.has 0 _ _ rfl).1 t0
              go_upto_region 11 with fail
              clear x0 x1 x2 x3 x4 x5 x6 x7 x8 x9 x10 x11 x12 x13 x14
              clear lt lf
              replace hS := Lib.hid (hS.out.setc 0 rfl t0 (.int .i64 ((p : Int) + 1 + 1)))
              rw [show (i64s L).set t0 (.int .i64 ((p : Int) + 1 + 1)) = i64s (L.set t0 (((p + 1) + 1 : Nat) : Int)) from by rw [show (((p + 1) + 1 : Nat) : Int) = (p : Int) + 1 + 1 from by omega]; simp [i64s, List.map_set]] at hS
              simp only [List.set_cons_zero] at hS
              generalize World.setCell _ _ _ = X9 at hS ⊢
              go_wp2_with fail
              go_roundw
              case rel => exact ⟨(p + 1) + 1, L.set t0 (((p + 1) + 1 : Nat) : Int), by go_num, by have := HJL.out; omega, HPN.out, by rw [List.length_set]; exact HL16.out.1, HLS.out, hS.out.head⟩
              case measure => simp [intOf]; omega
            · obtain ⟨q0, rfl⟩ : ∃ q0, kl = q0 + 1 := ⟨kl - 1, by omega⟩
              have hq0 : q0 < xs.length := by have := HLE.out; have := HJL.out; omega
              have HPQ := Lib.hid (fun (h1 : beforeB xs[q0] ⟨t0, ⟨kind, key, oupto, val, limit⟩, since, done, upto, steps, short, ⟨code, akey, aval, pairs⟩, pa, pc⟩ = false) => HPL.out (Nat.succ_pos q0) hq0 h1)
              have HNQ := Lib.hid (fun (h1 : beforeB xs[q0] ⟨t0, ⟨kind, key, oupto, val, limit⟩, since, done, upto, steps, short, ⟨code, akey, aval, pairs⟩, pa, pc⟩ = true) => HNX.out (fun _ _ => h1))
              have HBc := Lib.hid (HBF.out xs[q0])
              have HY := Lib.hid (And.intro (HH.out.get hq0).1 (HH.out.get hq0).2.2)
              have hqw : wrap64 (((q0 + 1 : Nat) : Int) - 1) = (q0 : Int) := by unfold wrap64; omega
              have hqi : IntKind.i64.wrap (q0 : Int) = (q0 : Int) := Go.IntWalk.i64_in _ (by omega)
              have hqg : decide ((0 : Int) < ((q0 + 1 : Nat) : Int)) = true := decide_eq_true (by omega)
              have hqx : (q0 : Int) < (xs.length : Int) := by omega
              clear HPL HNX HLQ hk0
              generalize xs[q0] = y at HPQ HNQ HBc HY
              obtain ⟨thread', ⟨kind', key', oupto', val', limit'⟩, since', done', upto', steps', short', ⟨code', akey', aval', pairs'⟩, pa', pc'⟩ := y
              generalize beforeB _ _ = bb at HPQ HNQ HBc
              simp only [callCells] at HBc
              refine wpAnyH_take (i := 0) (v := ?_) rfl (by decide +kernel) (by decide +kernel) (by decide +kernel) (fun _ _ _ h => h) (Or.inl ⟨by rfl, ?hy⟩) hcur ?_
              case hy =>
                intro w1 hSw
                (try dsimp only at hSw)
                obtain ⟨x0, x1, x2, x3, x4, x5, x6, x7, x8, x9, x10, x11, x12, x13, x14⟩ := call_facts (x := ⟨t0, ⟨kind, key, oupto, val, limit⟩, since, done, upto, steps, short, ⟨code, akey, aval, pairs⟩, pa, pc⟩) (hSw.has 1 _ _ rfl).1
                simp only [Nat.zero_add] at x0 x1 x2 x3 x4 x5 x6 x7 x8 x9 x10 x11 x12 x13 x14
                go_simp
                (try with_reducible rfl)
              (try simp only [Act.put, List.getElem_toArray, List.getElem_cons_zero, List.getElem_cons_succ, List.setIfInBounds_toArray, List.set_cons_zero, List.set_cons_succ])
              refine wpAnyH_take (i := 1) (v := ?_) rfl (by decide +kernel) (by decide +kernel) (by decide +kernel) (fun _ _ _ h => h) (Or.inl ⟨by rfl, ?hy⟩) hcur ?_
              case hy =>
                intro w1 hSw
                (try dsimp only at hSw)
                obtain ⟨x0, x1, x2, x3, x4, x5, x6, x7, x8, x9, x10, x11, x12, x13, x14⟩ := call_facts (x := ⟨t0, ⟨kind, key, oupto, val, limit⟩, since, done, upto, steps, short, ⟨code, akey, aval, pairs⟩, pa, pc⟩) (hSw.has 1 _ _ rfl).1
                simp only [Nat.zero_add] at x0 x1 x2 x3 x4 x5 x6 x7 x8 x9 x10 x11 x12 x13 x14
                go_simp
                (try with_reducible rfl)
              (try simp only [Act.put, List.getElem_toArray, List.getElem_cons_zero, List.getElem_cons_succ, List.setIfInBounds_toArray, List.set_cons_zero, List.set_cons_succ])
              refine wpAnyH_take (i := 2) (v := ?_) rfl (by decide +kernel) (by decide +kernel) (by decide +kernel) (fun _ _ _ h => h) (Or.inl ⟨by rfl, ?hy⟩) hcur ?_
              case hy =>
                intro w1 hSw
                (try dsimp only at hSw)
                obtain ⟨x0, x1, x2, x3, x4, x5, x6, x7, x8, x9, x10, x11, x12, x13, x14⟩ := call_facts (x := ⟨t0, ⟨kind, key, oupto, val, limit⟩, since, done, upto, steps, short, ⟨code, akey, aval, pairs⟩, pa, pc⟩) (hSw.has 1 _ _ rfl).1
                simp only [Nat.zero_add] at x0 x1 x2 x3 x4 x5 x6 x7 x8 x9 x10 x11 x12 x13 x14
                go_simp
                (try with_reducible rfl)
              (try simp only [Act.put, List.getElem_toArray, List.getElem_cons_zero, List.getElem_cons_succ, List.setIfInBounds_toArray, List.set_cons_zero, List.set_cons_succ])
              refine wpAnyH_take (i := 3) (v := ?_) rfl (by decide +kernel) (by decide +kernel) (by decide +kernel) (fun _ _ _ h => h) (Or.inl ⟨by rfl, ?hy⟩) hcur ?_
              case hy =>
                intro w1 hSw
                (try dsimp only at hSw)
                obtain ⟨x0, x1, x2, x3, x4, x5, x6, x7, x8, x9, x10, x11, x12, x13, x14⟩ := call_facts (x := ⟨t0, ⟨kind, key, oupto, val, limit⟩, since, done, upto, steps, short, ⟨code, akey, aval, pairs⟩, pa, pc⟩) (hSw.has 1 _ _ rfl).1
                simp only [Nat.zero_add] at x0 x1 x2 x3 x4 x5 x6 x7 x8 x9 x10 x11 x12 x13 x14
                go_simp
                (try with_reducible rfl)
              (try simp only [Act.put, List.getElem_toArray, List.getElem_cons_zero, List.getElem_cons_succ, List.setIfInBounds_toArray, List.set_cons_zero, List.set_cons_succ])
              refine wpAnyH_take (i := 4) (v := ?_) rfl (by decide +kernel) (by decide +kernel) (by decide +kernel) (fun _ _ _ h => h) (Or.inl ⟨by rfl, ?hy⟩) hcur ?_
              case hy =>
                intro w1 hSw
                (try dsimp only at hSw)
                obtain ⟨x0, x1, x2, x3, x4, x5, x6, x7, x8, x9, x10, x11, x12, x13, x14⟩ := call_facts (x := ⟨t0, ⟨kind, key, oupto, val, limit⟩, since, done, upto, steps, short, ⟨code, akey, aval, pairs⟩, pa, pc⟩) (hSw.has 1 _ _ rfl).1
                simp only [Nat.zero_add] at x0 x1 x2 x3 x4 x5 x6 x7 x8 x9 x10 x11 x12 x13 x14
                go_simp
                (try with_reducible rfl)
              (try simp only [Act.put, List.getElem_toArray, List.getElem_cons_zero, List.getElem_cons_succ, List.setIfInBounds_toArray, List.set_cons_zero, List.set_cons_succ])
              refine wpAnyH_take (i := 5) (v := ?_) rfl (by decide +kernel) (by decide +kernel) (by decide +kernel) (fun _ _ _ h => h) (Or.inl ⟨by rfl, ?hy⟩) hcur ?_
              case hy =>
                intro w1 hSw
                (try dsimp only at hSw)
                obtain ⟨x0, x1, x2, x3, x4, x5, x6, x7, x8, x9, x10, x11, x12, x13, x14⟩ := call_facts (x := ⟨t0, ⟨kind, key, oupto, val, limit⟩, since, done, upto, steps, short, ⟨code, akey, aval, pairs⟩, pa, pc⟩) (hSw.has 1 _ _ rfl).1
                simp only [Nat.zero_add] at x0 x1 x2 x3 x4 x5 x6 x7 x8 x9 x10 x11 x12 x13 x14
                go_simp
                (try with_reducible rfl)
              (try simp only [Act.put, List.getElem_toArray, List.getElem_cons_zero, List.getElem_cons_succ, List.setIfInBounds_toArray, List.set_cons_zero, List.set_cons_succ])
              refine wpAnyH_take (i := 6) (v := ?_) rfl (by decide +kernel) (by decide +kernel) (by decide +kernel) (fun _ _ _ h => h) (Or.inl ⟨by rfl, ?hy⟩) hcur ?_
              case hy =>
                intro w1 hSw
                (try dsimp only at hSw)
                obtain ⟨x0, x1, x2, x3, x4, x5, x6, x7, x8, x9, x10, x11, x12, x13, x14⟩ := call_facts (x := ⟨t0, ⟨kind, key, oupto, val, limit⟩, since, done, upto, steps, short, ⟨code, akey, aval, pairs⟩, pa, pc⟩) (hSw.has 1 _ _ rfl).1
                simp only [Nat.zero_add] at x0 x1 x2 x3 x4 x5 x6 x7 x8 x9 x10 x11 x12 x13 x14
                go_simp
                (try with_reducible rfl)
              (try simp only [Act.put, List.getElem_toArray, List.getElem_cons_zero, List.getElem_cons_succ, List.setIfInBounds_toArray, List.set_cons_zero, List.set_cons_succ])
              refine wpAnyH_take (i := 7) (v := ?_) rfl (by decide +kernel) (by decide +kernel) (by decide +kernel) (fun _ _ _ h => h) (Or.inl ⟨by rfl, ?hy⟩) hcur ?_
              case hy =>
                intro w1 hSw
                (try dsimp only at hSw)
                obtain ⟨d0, d1, d2, d3, d4, d5, d6, d7, d8, d9, d10, d11, d12, d13, d14⟩ := CallAt.moved HY.out.2 hSw.below HY.out.1
                go_simp
                (try with_reducible rfl)
              (try simp only [Act.put, List.getElem_toArray, List.getElem_cons_zero, List.getElem_cons_succ, List.setIfInBounds_toArray, List.set_cons_zero, List.set_cons_succ])
              refine wpAnyH_take (i := 8) (v := ?_) rfl (by decide +kernel) (by decide +kernel) (by decide +kernel) (fun _ _ _ h => h) (Or.inl ⟨by rfl, ?hy⟩) hcur ?_
              case hy =>
                intro w1 hSw
                (try dsimp only at hSw)
                obtain ⟨x0, x1, x2, x3, x4, x5, x6, x7, x8, x9, x10, x11, x12, x13, x14⟩ := call_facts (x := ⟨t0, ⟨kind, key, oupto, val, limit⟩, since, done, upto, steps, short, ⟨code, akey, aval, pairs⟩, pa, pc⟩) (hSw.has 1 _ _ rfl).1
                simp only [Nat.zero_add] at x0 x1 x2 x3 x4 x5 x6 x7 x8 x9 x10 x11 x12 x13 x14
                go_simp
                (try with_reducible rfl)
              (try simp only [Act.put, List.getElem_toArray, List.getElem_cons_zero, List.getElem_cons_succ, List.setIfInBounds_toArray, List.set_cons_zero, List.set_cons_succ])
              refine wpAnyH_ready (rs := [9]) (by decide +kernel) (by simp) ?_
              refine AllReadyH.cons rfl (fun K hK => ?_) AllReadyH.nil
              go_simp
              refine (HBc.out _).mono ?_
              rintro e X3 ⟨rfl, hbn⟩
              replace hS := Lib.hid (hS.out.call hbn)
              go_wp2_with fail
              refine hK.out _ _ (hS.out) (fun hcur2 => ?_)
              clear hK K
              replace hcur := hcur2
              (try dsimp only at hcur)
              clear hcur2
              (try simp only [Act.put, List.getElem_toArray, List.getElem_cons_zero, List.getElem_cons_succ, List.setIfInBounds_toArray, List.set_cons_zero, List.set_cons_succ])
              refine wpAnyH_take (i := 10) (v := ?_) rfl (by decide +kernel) (by decide +kernel) (by decide +kernel) (fun _ _ _ h => h) (Or.inl ⟨by rfl, ?hy⟩) hcur ?_
              case hy =>
                intro w1 hSw
                (try dsimp only at hSw)
                obtain ⟨x0, x1, x2, x3, x4, x5, x6, x7, x8, x9, x10, x11, x12, x13, x14⟩ := call_facts (x := ⟨t0, ⟨kind, key, oupto, val, limit⟩, since, done, upto, steps, short, ⟨code, akey, aval, pairs⟩, pa, pc⟩) (hSw.has 1 _ _ rfl).1
                simp only [Nat.zero_add] at x0 x1 x2 x3 x4 x5 x6 x7 x8 x9 x10 x11 x12 x13 x14
                go_simp
                (try with_reducible rfl)
              (try simp only [Act.put, List.getElem_toArray, List.getElem_cons_zero, List.getElem_cons_succ, List.setIfInBounds_toArray, List.set_cons_zero, List.set_cons_succ])
              refine wpAnyH_take (i := 11) (v := ?_) rfl (by decide +kernel) (by decide +kernel) (by decide +kernel) (fun _ _ _ h => h) (Or.inl ⟨by rfl, ?hy⟩) hcur ?_
              case hy =>
                intro w1 hSw
                (try dsimp only at hSw)
                obtain ⟨x0, x1, x2, x3, x4, x5, x6, x7, x8, x9, x10, x11, x12, x13, x14⟩ := call_facts (x := ⟨t0, ⟨kind, key, oupto, val, limit⟩, since, done, upto, steps, short, ⟨code, akey, aval, pairs⟩, pa, pc⟩) (hSw.has 1 _ _ rfl).1
                simp only [Nat.zero_add] at x0 x1 x2 x3 x4 x5 x6 x7 x8 x9 x10 x11 x12 x13 x14
                go_simp
                (try with_reducible rfl)
              (try simp only [Act.put, List.getElem_toArray, List.getElem_cons_zero, List.getElem_cons_succ, List.setIfInBounds_toArray, List.set_cons_zero, List.set_cons_succ])
              refine wpAnyH_done (by decide +kernel) ?_ _
              clear hbn HBc HY hqw hqg hqx hqi
              cases bb
              · obtain rfl := HPQ.out rfl
                go_wp2_with fail
                go_ret
                exact ⟨rfl, hcur.below⟩
              · have HNY := Lib.hid (HNQ.out rfl)
                clear HPQ HNQ
                replace hS := Lib.hid hcur
                clear hcur
                have HPN := Lib.hid (show ∀ q (hq : q < xs.length), q < p + 1 + 1 → sndC xs[q] = true ∧ ∀ k (hk : k < q), pairB (xs[k]'(Nat.lt_trans hk hq)) xs[q] = true from fun q hq hqj => by
                  rcases Nat.lt_succ_iff_lt_or_eq.1 hqj with g | g
                  · exact HPRE.out q hq g
                  · subst g
                    have e := HXJ.out
                    exact ⟨(congrArg sndC e).trans HSB.out, fun k hk => (congrArg (pairB _) e).trans (HNY.out k hk)⟩)
                clear HNY HPRE HXJ HSB
                obtain ⟨x0, x1, x2, x3, x4, x5, x6, x7, x8, x9, x10, x11, x12, x13, x14⟩ := call_facts (x := ⟨t0, ⟨kind, key, oupto, val, limit⟩, since, done, upto, steps, short, ⟨code, akey, aval, pairs⟩, pa, pc⟩) (hS.out.has 1 _ _ rfl).1
                simp only [Nat.zero_add] at x0 x1 x2 x3 x4 x5 x6 x7 x8 x9 x10 x11 x12 x13 x14
                have lt := int_cell (hS.out.has 0 _ _ rfl).1 t0 HLT0.out
                have lf := heap_frozen (hS.out.has 0 _ _ rfl).1 t0
                go_upto_region 11 with fail
                clear x0 x1 x2 x3 x4 x5 x6 x7 x8 x9 x10 x11 x12 x13 x14
                clear lt lf
                replace hS := Lib.hid (hS.out.setc 0 rfl t0 (.int .i64 ((p : Int) + 1 + 1)))
                rw [show (i64s L).set t0 (.int .i64 ((p : Int) + 1 + 1)) = i64s (L.set t0 (((p + 1) + 1 : Nat) : Int)) from by rw [show (((p + 1) + 1 : Nat) : Int) = (p : Int) + 1 + 1 from by omega]; simp [i64s, List.map_set]] at hS
                simp only [List.set_cons_zero] at hS
                generalize World.setCell _ _ _ = X9 at hS ⊢
                go_wp2_with fail
                go_roundw
                case rel => exact ⟨(p + 1) + 1, L.set t0 (((p + 1) + 1 : Nat) : Int), by go_num, by have := HJL.out; omega, HPN.out, by rw [List.length_set]; exact HL16.out.1, HLS.out, hS.out.head⟩
                case measure => simp [intOf]; omega
    · have HF := Lib.hid (HM1.out fun i hi => H.out.2.1 i hi (by omega))
      go_wp2_with fail
      go_ret
      exact ⟨by rw [HF.out]; rfl, H.out.2.2.2.2.below⟩

end Go.Proofs.Ythbafbgnclpbpaa

namespace Go.Proofs.Ythbafbgnclpbpaa
open Go.RowKit

set_option maxRecDepth 100000 in
set_option maxHeartbeats 16000000 in
theorem refmay_any (A : Option Addr) (c : Nat) (xs : List CallD) (w : World) (h : Cls w A xs.length xs) (hx : ∀ x ∈ xs, CallOk x) (hl : xs.length ≤ 1000) :
    Calls Try.prog 55 #[.slice A xs.length c] w (Ret (.bool (mayC xs)) w) := by
  have HH := Lib.hid h
  have HX := Lib.hid hx
  have HM1 := Lib.hid (fun h => (mayC_iff xs).2 h)
  have HM0 := Lib.hid (fun (i : Nat) (hi : i < xs.length) h => mayC_no (xs := xs) (i := i) hi h)
  generalize mayC xs = r at HM1 HM0 ⊢
  clear h hx
  go_enter Try.func55, Try.ntmps55
  go_wp2_with fail
  go_loopw [3, 4] (fun i _ wr => ∃ (j : Nat), i = .int .i64 j ∧ Hid (j ≤ xs.length ∧ (∀ q (hq : q < xs.length), q < j → sndC xs[q] = true ∧ ∀ k (hk : k < q), pairB (xs[k]'(Nat.lt_trans hk hq)) xs[q] = true) ∧ Below w.heap.size w wr)) (fun i _ _ => xs.length - (intOf i).toNat)
  case atStart => exact ⟨0, rfl, Nat.zero_le _, fun q _ hq => absurd hq (Nat.not_lt_zero _), Below.refl _ _⟩
  case round =>
    obtain ⟨j, rfl, H⟩ := hrel
    by_cases hlt : j < xs.length
    · have HJL := Lib.hid hlt
      obtain ⟨b, off, _, hA, hbw, _, _⟩ := HH.out.at_ hlt
      subst hA
      have hok := HX.out _ (List.getElem_mem hlt)
      have HPS := Lib.hid (fun (h1 : sndC xs[j] = false) => HM0.out j hlt (.inl h1))
      have HPP := Lib.hid (fun (k : Nat) (hk : k < j) (h1 : pairB (xs[k]'(Nat.lt_trans hk hlt)) xs[j] = false) => HM0.out j hlt (.inr ⟨k, hk, h1⟩))
      have HPRE := Lib.hid H.out.2.1
      have HCJ := Lib.hid (HH.out.get hlt).2.2
      have hpr := HH.out.2.1 _ (List.getElem_mem hlt)
      have HSC := Lib.hid (fun W (hW : Prs W xs[j].pa xs[j].ans.pairs.length xs[j].ans.pairs) => refcsound_any xs[j] W hok hW)
      have HP := Lib.hid (hpr.up H.out.2.2)
      have HBF := Lib.hid (fun (y : CallD) W => refbefore_any y xs[j] W)
      have HB0 := Lib.hid H.out.2.2
      have HBL := Lib.hid hbw
      clear H hpr hok hbw
      obtain ⟨x, hxj⟩ : ∃ x, x = xs[j] := ⟨_, rfl⟩
      have HXJ := Lib.hid hxj
      simp only [← hxj] at HPS HPP HCJ HSC HP HBF
      clear hxj
      obtain ⟨sb, hsb⟩ : ∃ sb, sb = sndC x := ⟨_, rfl⟩
      have HSB := Lib.hid hsb
      rw [← hsb] at HSC HPS
      clear hsb
      obtain ⟨thread, ⟨kind, key, oupto, val, limit⟩, since, done, upto, steps, short, ⟨code, akey, aval, pairs⟩, pa, pc⟩ := x
      simp only [callCells] at HSC HP
      obtain ⟨x0, x1, x2, x3, x4, x5, x6, x7, x8, x9, x10, x11, x12, x13, x14⟩ := CallAt.moved HCJ.out HB0.out HBL.out
      go_wp2_with fail
      refine (HSC.out _ HP.out).mono ?_
      rintro e wn ⟨rfl, hbn⟩
      clear x0 x1 x2 x3 x4 x5 x6 x7 x8 x9 x10 x11 x12 x13 x14
      replace HB0 := Lib.hid (below_of HB0.out hbn)
      clear hbn HSC HP
      cases sb
      · obtain rfl := HPS.out rfl
        go_wp2_with fail
        go_ret
        exact ⟨rfl, HB0.out⟩
      · clear HPS
        go_wp2_with fail
        go_loopw [4] (fun i wr => ∃ (k : Nat), i = .int .i64 k ∧ Hid (k ≤ j ∧ (∀ q (hq : q < j), q < k → pairB (xs[q]'(Nat.lt_trans hq HJL.out)) ⟨thread, ⟨kind, key, oupto, val, limit⟩, since, done, upto, steps, short, ⟨code, akey, aval, pairs⟩, pa, pc⟩ = true) ∧ Below w.heap.size w wr)) (fun i _ => j - (intOf i).toNat)
        case atStart => exact ⟨0, rfl, Nat.zero_le _, fun q _ hq => absurd hq (Nat.not_lt_zero _), HB0.out⟩
        case round =>
          obtain ⟨k, rfl, H⟩ := hrel
          by_cases hkj : k < j
          · have hkl : k < xs.length := by have := HJL.out; omega
            have HCK := Lib.hid (HH.out.get hkl).2.2
            have HPK := Lib.hid (HPP.out k hkj)
            have HBc := Lib.hid (HBF.out xs[k])
            have HNX0 := Lib.hid (fun (g : pairB xs[k] ⟨thread, ⟨kind, key, oupto, val, limit⟩, since, done, upto, steps, short, ⟨code, akey, aval, pairs⟩, pa, pc⟩ = true) (q : Nat) (hq : q < j) (hqk : q < k + 1) => show pairB (xs[q]'(Nat.lt_trans hq HJL.out)) ⟨thread, ⟨kind, key, oupto, val, limit⟩, since, done, upto, steps, short, ⟨code, akey, aval, pairs⟩, pa, pc⟩ = true from by
              rcases Nat.lt_succ_iff_lt_or_eq.1 hqk with g2 | rfl
              · exact H.out.2.1 q hq g2
              · exact g)
            generalize xs[k] = y at HCK HPK HBc HNX0
            have hpb : pairB y ⟨thread, ⟨kind, key, oupto, val, limit⟩, since, done, upto, steps, short, ⟨code, akey, aval, pairs⟩, pa, pc⟩ = (decide (y.since < since) && (!decide (y.thread = thread) || beforeB y ⟨thread, ⟨kind, key, oupto, val, limit⟩, since, done, upto, steps, short, ⟨code, akey, aval, pairs⟩, pa, pc⟩)) := rfl
            generalize pairB y _ = pb at HPK HNX0 hpb
            generalize beforeB y _ = bb at HBc hpb
            have HPB := Lib.hid hpb
            clear hpb
            obtain ⟨thread', ⟨kind', key', oupto', val', limit'⟩, since', done', upto', steps', short', ⟨code', akey', aval', pairs'⟩, pa', pc'⟩ := y
            simp only [callCells] at HBc HPB
            have hkj2 : decide ((k : Int) < (j : Int)) = true := decide_eq_true (by omega)
            have hkx : (k : Int) < (xs.length : Int) := by omega
            have hjx : (j : Int) < (xs.length : Int) := by omega
            have HBel := Lib.hid H.out.2.2
            clear H
            go_upto_region 9 with fail
            clear hkj2
            generalize wr = V at HBel ⊢
            refine wp_region_held_drew (S := fun w' => Below w.heap.size w w') (by kernel_rfl) (Below.drew HBel.out) (fun hcur => ?_)
            (try dsimp only at hcur)
            generalize V.drew = X at hcur ⊢
            refine wpAnyH_take (i := 0) (v := ?_) rfl (by decide +kernel) (by decide +kernel) (by decide +kernel) (fun _ _ _ h => h) (Or.inl ⟨by rfl, ?hy⟩) hcur ?_
            case hy =>
              intro w1 hSw
              (try dsimp only at hSw)
              obtain ⟨x0, x1, x2, x3, x4, x5, x6, x7, x8, x9, x10, x11, x12, x13, x14⟩ := CallAt.moved HCJ.out hSw HBL.out
              obtain ⟨y0, y1, y2, y3, y4, y5, y6, y7, y8, y9, y10, y11, y12, y13, y14⟩ := CallAt.moved HCK.out hSw HBL.out
              go_simp
              (try with_reducible rfl)
            (try simp only [Act.put, List.getElem_toArray, List.getElem_cons_zero, List.getElem_cons_succ, List.setIfInBounds_toArray, List.set_cons_zero, List.set_cons_succ])
            refine wpAnyH_take (i := 1) (v := ?_) rfl (by decide +kernel) (by decide +kernel) (by decide +kernel) (fun _ _ _ h => h) (Or.inl ⟨by rfl, ?hy⟩) hcur ?_
            case hy =>
              intro w1 hSw
              (try dsimp only at hSw)
              obtain ⟨x0, x1, x2, x3, x4, x5, x6, x7, x8, x9, x10, x11, x12, x13, x14⟩ := CallAt.moved HCJ.out hSw HBL.out
              obtain ⟨y0, y1, y2, y3, y4, y5, y6, y7, y8, y9, y10, y11, y12, y13, y14⟩ := CallAt.moved HCK.out hSw HBL.out
              go_simp
              (try with_reducible rfl)
            (try simp only [Act.put, List.getElem_toArray, List.getElem_cons_zero, List.getElem_cons_succ, List.setIfInBounds_toArray, List.set_cons_zero, List.set_cons_succ])
            refine wpAnyH_take (i := 2) (v := ?_) rfl (by decide +kernel) (by decide +kernel) (by decide +kernel) (fun _ _ _ h => h) (Or.inl ⟨by rfl, ?hy⟩) hcur ?_
            case hy =>
              intro w1 hSw
              (try dsimp only at hSw)
              obtain ⟨x0, x1, x2, x3, x4, x5, x6, x7, x8, x9, x10, x11, x12, x13, x14⟩ := CallAt.moved HCJ.out hSw HBL.out
              obtain ⟨y0, y1, y2, y3, y4, y5, y6, y7, y8, y9, y10, y11, y12, y13, y14⟩ := CallAt.moved HCK.out hSw HBL.out
              go_simp
              (try with_reducible rfl)
            (try simp only [Act.put, List.getElem_toArray, List.getElem_cons_zero, List.getElem_cons_succ, List.setIfInBounds_toArray, List.set_cons_zero, List.set_cons_succ])
            refine wpAnyH_take (i := 3) (v := ?_) rfl (by decide +kernel) (by decide +kernel) (by decide +kernel) (fun _ _ _ h => h) (Or.inl ⟨by rfl, ?hy⟩) hcur ?_
            case hy =>
              intro w1 hSw
              (try dsimp only at hSw)
              obtain ⟨x0, x1, x2, x3, x4, x5, x6, x7, x8, x9, x10, x11, x12, x13, x14⟩ := CallAt.moved HCJ.out hSw HBL.out
              obtain ⟨y0, y1, y2, y3, y4, y5, y6, y7, y8, y9, y10, y11, y12, y13, y14⟩ := CallAt.moved HCK.out hSw HBL.out
              go_simp
              (try with_reducible rfl)
            (try simp only [Act.put, List.getElem_toArray, List.getElem_cons_zero, List.getElem_cons_succ, List.setIfInBounds_toArray, List.set_cons_zero, List.set_cons_succ])
            refine wpAnyH_take (i := 4) (v := ?_) rfl (by decide +kernel) (by decide +kernel) (by decide +kernel) (fun _ _ _ h => h) (Or.inl ⟨by rfl, ?hy⟩) hcur ?_
            case hy =>
              intro w1 hSw
              (try dsimp only at hSw)
              obtain ⟨x0, x1, x2, x3, x4, x5, x6, x7, x8, x9, x10, x11, x12, x13, x14⟩ := CallAt.moved HCJ.out hSw HBL.out
              obtain ⟨y0, y1, y2, y3, y4, y5, y6, y7, y8, y9, y10, y11, y12, y13, y14⟩ := CallAt.moved HCK.out hSw HBL.out
              go_simp
              (try with_reducible rfl)
            (try simp only [Act.put, List.getElem_toArray, List.getElem_cons_zero, List.getElem_cons_succ, List.setIfInBounds_toArray, List.set_cons_zero, List.set_cons_succ])
            refine wpAnyH_take (i := 5) (v := ?_) rfl (by decide +kernel) (by decide +kernel) (by decide +kernel) (fun _ _ _ h => h) (Or.inl ⟨by rfl, ?hy⟩) hcur ?_
            case hy =>
              intro w1 hSw
              (try dsimp only at hSw)
              obtain ⟨x0, x1, x2, x3, x4, x5, x6, x7, x8, x9, x10, x11, x12, x13, x14⟩ := CallAt.moved HCJ.out hSw HBL.out
              obtain ⟨y0, y1, y2, y3, y4, y5, y6, y7, y8, y9, y10, y11, y12, y13, y14⟩ := CallAt.moved HCK.out hSw HBL.out
              go_simp
              (try with_reducible rfl)
            (try simp only [Act.put, List.getElem_toArray, List.getElem_cons_zero, List.getElem_cons_succ, List.setIfInBounds_toArray, List.set_cons_zero, List.set_cons_succ])
            refine wpAnyH_take (i := 6) (v := ?_) rfl (by decide +kernel) (by decide +kernel) (by decide +kernel) (fun _ _ _ h => h) (Or.inl ⟨by rfl, ?hy⟩) hcur ?_
            case hy =>
              intro w1 hSw
              (try dsimp only at hSw)
              obtain ⟨x0, x1, x2, x3, x4, x5, x6, x7, x8, x9, x10, x11, x12, x13, x14⟩ := CallAt.moved HCJ.out hSw HBL.out
              obtain ⟨y0, y1, y2, y3, y4, y5, y6, y7, y8, y9, y10, y11, y12, y13, y14⟩ := CallAt.moved HCK.out hSw HBL.out
              go_simp
              (try with_reducible rfl)
            (try simp only [Act.put, List.getElem_toArray, List.getElem_cons_zero, List.getElem_cons_succ, List.setIfInBounds_toArray, List.set_cons_zero, List.set_cons_succ])
            refine wpAnyH_take (i := 7) (v := ?_) rfl (by decide +kernel) (by decide +kernel) (by decide +kernel) (fun _ _ _ h => h) (Or.inl ⟨by rfl, ?hy⟩) hcur ?_
            case hy =>
              intro w1 hSw
              (try dsimp only at hSw)
              obtain ⟨x0, x1, x2, x3, x4, x5, x6, x7, x8, x9, x10, x11, x12, x13, x14⟩ := CallAt.moved HCJ.out hSw HBL.out
              obtain ⟨y0, y1, y2, y3, y4, y5, y6, y7, y8, y9, y10, y11, y12, y13, y14⟩ := CallAt.moved HCK.out hSw HBL.out
              go_simp
              (try with_reducible rfl)
            (try simp only [Act.put, List.getElem_toArray, List.getElem_cons_zero, List.getElem_cons_succ, List.setIfInBounds_toArray, List.set_cons_zero, List.set_cons_succ])
            refine wpAnyH_take (i := 8) (v := ?_) rfl (by decide +kernel) (by decide +kernel) (by decide +kernel) (fun _ _ _ h => h) (Or.inl ⟨by rfl, ?hy⟩) hcur ?_
            case hy =>
              intro w1 hSw
              (try dsimp only at hSw)
              obtain ⟨x0, x1, x2, x3, x4, x5, x6, x7, x8, x9, x10, x11, x12, x13, x14⟩ := CallAt.moved HCJ.out hSw HBL.out
              obtain ⟨y0, y1, y2, y3, y4, y5, y6, y7, y8, y9, y10, y11, y12, y13, y14⟩ := CallAt.moved HCK.out hSw HBL.out
              go_simp
              (try with_reducible rfl)
            (try simp only [Act.put, List.getElem_toArray, List.getElem_cons_zero, List.getElem_cons_succ, List.setIfInBounds_toArray, List.set_cons_zero, List.set_cons_succ])
            refine wpAnyH_take (i := 9) (v := ?_) rfl (by decide +kernel) (by decide +kernel) (by decide +kernel) (fun _ _ _ h => h) (Or.inl ⟨by rfl, ?hy⟩) hcur ?_
            case hy =>
              intro w1 hSw
              (try dsimp only at hSw)
              obtain ⟨x0, x1, x2, x3, x4, x5, x6, x7, x8, x9, x10, x11, x12, x13, x14⟩ := CallAt.moved HCJ.out hSw HBL.out
              obtain ⟨y0, y1, y2, y3, y4, y5, y6, y7, y8, y9, y10, y11, y12, y13, y14⟩ := CallAt.moved HCK.out hSw HBL.out
              go_simp
              (try with_reducible rfl)
            (try simp only [Act.put, List.getElem_toArray, List.getElem_cons_zero, List.getElem_cons_succ, List.setIfInBounds_toArray, List.set_cons_zero, List.set_cons_succ])
            by_cases h1 : since ≤ since'
            · have h1b : decide (since ≤ since') = true := decide_eq_true h1
              obtain rfl := HPK.out (by rw [HPB.out, decide_eq_false (p := since' < since) (by omega)]; rfl)
              clear h1
              refine wpAnyH_take (i := 10) (v := ?_) rfl (by decide +kernel) (by decide +kernel) (by decide +kernel) (fun _ _ _ h => h) (Or.inl ⟨by rfl, ?hy⟩) hcur ?_
              case hy =>
                intro w1 hSw
                (try dsimp only at hSw)
                obtain ⟨x0, x1, x2, x3, x4, x5, x6, x7, x8, x9, x10, x11, x12, x13, x14⟩ := CallAt.moved HCJ.out hSw HBL.out
                obtain ⟨y0, y1, y2, y3, y4, y5, y6, y7, y8, y9, y10, y11, y12, y13, y14⟩ := CallAt.moved HCK.out hSw HBL.out
                go_simp
                (try with_reducible rfl)
              (try simp only [Act.put, List.getElem_toArray, List.getElem_cons_zero, List.getElem_cons_succ, List.setIfInBounds_toArray, List.set_cons_zero, List.set_cons_succ])
              refine wpAnyH_take (i := 11) (v := ?_) rfl (by decide +kernel) (by decide +kernel) (by decide +kernel) (fun _ _ _ h => h) (Or.inl ⟨by rfl, ?hy⟩) hcur ?_
              case hy =>
                intro w1 hSw
                (try dsimp only at hSw)
                obtain ⟨x0, x1, x2, x3, x4, x5, x6, x7, x8, x9, x10, x11, x12, x13, x14⟩ := CallAt.moved HCJ.out hSw HBL.out
                obtain ⟨y0, y1, y2, y3, y4, y5, y6, y7, y8, y9, y10, y11, y12, y13, y14⟩ := CallAt.moved HCK.out hSw HBL.out
                go_simp
                (try with_reducible rfl)
              (try simp only [Act.put, List.getElem_toArray, List.getElem_cons_zero, List.getElem_cons_succ, List.setIfInBounds_toArray, List.set_cons_zero, List.set_cons_succ])
              refine wpAnyH_take (i := 12) rfl (by decide +kernel) (by decide +kernel) (by decide +kernel) (fun _ _ _ h => h) (Or.inr ⟨by rfl, rfl⟩) hcur ?_
              (try simp only [Act.put, List.getElem_toArray, List.getElem_cons_zero, List.getElem_cons_succ, List.setIfInBounds_toArray, List.set_cons_zero, List.set_cons_succ])
              refine wpAnyH_take (i := 13) rfl (by decide +kernel) (by decide +kernel) (by decide +kernel) (fun _ _ _ h => h) (Or.inr ⟨by rfl, rfl⟩) hcur ?_
              (try simp only [Act.put, List.getElem_toArray, List.getElem_cons_zero, List.getElem_cons_succ, List.setIfInBounds_toArray, List.set_cons_zero, List.set_cons_succ])
              refine wpAnyH_take (i := 14) rfl (by decide +kernel) (by decide +kernel) (by decide +kernel) (fun _ _ _ h => h) (Or.inr ⟨by rfl, rfl⟩) hcur ?_
              (try simp only [Act.put, List.getElem_toArray, List.getElem_cons_zero, List.getElem_cons_succ, List.setIfInBounds_toArray, List.set_cons_zero, List.set_cons_succ])
              refine wpAnyH_take (i := 15) rfl (by decide +kernel) (by decide +kernel) (by decide +kernel) (fun _ _ _ h => h) (Or.inr ⟨by rfl, rfl⟩) hcur ?_
              (try simp only [Act.put, List.getElem_toArray, List.getElem_cons_zero, List.getElem_cons_succ, List.setIfInBounds_toArray, List.set_cons_zero, List.set_cons_succ])
              refine wpAnyH_take (i := 16) rfl (by decide +kernel) (by decide +kernel) (by decide +kernel) (fun _ _ _ h => h) (Or.inr ⟨by rfl, rfl⟩) hcur ?_
              (try simp only [Act.put, List.getElem_toArray, List.getElem_cons_zero, List.getElem_cons_succ, List.setIfInBounds_toArray, List.set_cons_zero, List.set_cons_succ])
              refine wpAnyH_take (i := 17) rfl (by decide +kernel) (by decide +kernel) (by decide +kernel) (fun _ _ _ h => h) (Or.inr ⟨by rfl, rfl⟩) hcur ?_
              (try simp only [Act.put, List.getElem_toArray, List.getElem_cons_zero, List.getElem_cons_succ, List.setIfInBounds_toArray, List.set_cons_zero, List.set_cons_succ])
              refine wpAnyH_take (i := 18) rfl (by decide +kernel) (by decide +kernel) (by decide +kernel) (fun _ _ _ h => h) (Or.inr ⟨by rfl, rfl⟩) hcur ?_
              (try simp only [Act.put, List.getElem_toArray, List.getElem_cons_zero, List.getElem_cons_succ, List.setIfInBounds_toArray, List.set_cons_zero, List.set_cons_succ])
              refine wpAnyH_take (i := 19) rfl (by decide +kernel) (by decide +kernel) (by decide +kernel) (fun _ _ _ h => h) (Or.inr ⟨by rfl, rfl⟩) hcur ?_
              (try simp only [Act.put, List.getElem_toArray, List.getElem_cons_zero, List.getElem_cons_succ, List.setIfInBounds_toArray, List.set_cons_zero, List.set_cons_succ])
              refine wpAnyH_take (i := 20) rfl (by decide +kernel) (by decide +kernel) (by decide +kernel) (fun _ _ _ h => h) (Or.inr ⟨by rfl, rfl⟩) hcur ?_
              (try simp only [Act.put, List.getElem_toArray, List.getElem_cons_zero, List.getElem_cons_succ, List.setIfInBounds_toArray, List.set_cons_zero, List.set_cons_succ])
              refine wpAnyH_take (i := 21) rfl (by decide +kernel) (by decide +kernel) (by decide +kernel) (fun _ _ _ h => h) (Or.inr ⟨by rfl, rfl⟩) hcur ?_
              (try simp only [Act.put, List.getElem_toArray, List.getElem_cons_zero, List.getElem_cons_succ, List.setIfInBounds_toArray, List.set_cons_zero, List.set_cons_succ])
              refine wpAnyH_take (i := 22) rfl (by decide +kernel) (by decide +kernel) (by decide +kernel) (fun _ _ _ h => h) (Or.inr ⟨by rfl, rfl⟩) hcur ?_
              (try simp only [Act.put, List.getElem_toArray, List.getElem_cons_zero, List.getElem_cons_succ, List.setIfInBounds_toArray, List.set_cons_zero, List.set_cons_succ])
              refine wpAnyH_take (i := 23) rfl (by decide +kernel) (by decide +kernel) (by decide +kernel) (fun _ _ _ h => h) (Or.inr ⟨by rfl, rfl⟩) hcur ?_
              (try simp only [Act.put, List.getElem_toArray, List.getElem_cons_zero, List.getElem_cons_succ, List.setIfInBounds_toArray, List.set_cons_zero, List.set_cons_succ])
              refine wpAnyH_take (i := 24) rfl (by decide +kernel) (by decide +kernel) (by decide +kernel) (fun _ _ _ h => h) (Or.inr ⟨by rfl, rfl⟩) hcur ?_
              (try simp only [Act.put, List.getElem_toArray, List.getElem_cons_zero, List.getElem_cons_succ, List.setIfInBounds_toArray, List.set_cons_zero, List.set_cons_succ])
              refine wpAnyH_take (i := 25) rfl (by decide +kernel) (by decide +kernel) (by decide +kernel) (fun _ _ _ h => h) (Or.inr ⟨by rfl, rfl⟩) hcur ?_
              (try simp only [Act.put, List.getElem_toArray, List.getElem_cons_zero, List.getElem_cons_succ, List.setIfInBounds_toArray, List.set_cons_zero, List.set_cons_succ])
              refine wpAnyH_take (i := 26) rfl (by decide +kernel) (by decide +kernel) (by decide +kernel) (fun _ _ _ h => h) (Or.inr ⟨by rfl, rfl⟩) hcur ?_
              (try simp only [Act.put, List.getElem_toArray, List.getElem_cons_zero, List.getElem_cons_succ, List.setIfInBounds_toArray, List.set_cons_zero, List.set_cons_succ])
              refine wpAnyH_take (i := 27) rfl (by decide +kernel) (by decide +kernel) (by decide +kernel) (fun _ _ _ h => h) (Or.inr ⟨by rfl, rfl⟩) hcur ?_
              (try simp only [Act.put, List.getElem_toArray, List.getElem_cons_zero, List.getElem_cons_succ, List.setIfInBounds_toArray, List.set_cons_zero, List.set_cons_succ])
              refine wpAnyH_take (i := 28) rfl (by decide +kernel) (by decide +kernel) (by decide +kernel) (fun _ _ _ h => h) (Or.inr ⟨by rfl, rfl⟩) hcur ?_
              (try simp only [Act.put, List.getElem_toArray, List.getElem_cons_zero, List.getElem_cons_succ, List.setIfInBounds_toArray, List.set_cons_zero, List.set_cons_succ])
              refine wpAnyH_take (i := 29) rfl (by decide +kernel) (by decide +kernel) (by decide +kernel) (fun _ _ _ h => h) (Or.inr ⟨by rfl, rfl⟩) hcur ?_
              (try simp only [Act.put, List.getElem_toArray, List.getElem_cons_zero, List.getElem_cons_succ, List.setIfInBounds_toArray, List.set_cons_zero, List.set_cons_succ])
              refine wpAnyH_take (i := 30) rfl (by decide +kernel) (by decide +kernel) (by decide +kernel) (fun _ _ _ h => h) (Or.inr ⟨by rfl, rfl⟩) hcur ?_
              (try simp only [Act.put, List.getElem_toArray, List.getElem_cons_zero, List.getElem_cons_succ, List.setIfInBounds_toArray, List.set_cons_zero, List.set_cons_succ])
              refine wpAnyH_take (i := 31) rfl (by decide +kernel) (by decide +kernel) (by decide +kernel) (fun _ _ _ h => h) (Or.inr ⟨by rfl, rfl⟩) hcur ?_
              (try simp only [Act.put, List.getElem_toArray, List.getElem_cons_zero, List.getElem_cons_succ, List.setIfInBounds_toArray, List.set_cons_zero, List.set_cons_succ])
              refine wpAnyH_take (i := 32) rfl (by decide +kernel) (by decide +kernel) (by decide +kernel) (fun _ _ _ h => h) (Or.inr ⟨by rfl, rfl⟩) hcur ?_
              (try simp only [Act.put, List.getElem_toArray, List.getElem_cons_zero, List.getElem_cons_succ, List.setIfInBounds_toArray, List.set_cons_zero, List.set_cons_succ])
              refine wpAnyH_take (i := 33) rfl (by decide +kernel) (by decide +kernel) (by decide +kernel) (fun _ _ _ h => h) (Or.inr ⟨by rfl, rfl⟩) hcur ?_
              (try simp only [Act.put, List.getElem_toArray, List.getElem_cons_zero, List.getElem_cons_succ, List.setIfInBounds_toArray, List.set_cons_zero, List.set_cons_succ])
              refine wpAnyH_take (i := 34) rfl (by decide +kernel) (by decide +kernel) (by decide +kernel) (fun _ _ _ h => h) (Or.inr ⟨by rfl, rfl⟩) hcur ?_
              (try simp only [Act.put, List.getElem_toArray, List.getElem_cons_zero, List.getElem_cons_succ, List.setIfInBounds_toArray, List.set_cons_zero, List.set_cons_succ])
              refine wpAnyH_take (i := 35) (v := ?_) rfl (by decide +kernel) (by decide +kernel) (by decide +kernel) (fun _ _ _ h => h) (Or.inl ⟨by rfl, ?hy⟩) hcur ?_
              case hy =>
                intro w1 hSw
                (try dsimp only at hSw)
                obtain ⟨x0, x1, x2, x3, x4, x5, x6, x7, x8, x9, x10, x11, x12, x13, x14⟩ := CallAt.moved HCJ.out hSw HBL.out
                obtain ⟨y0, y1, y2, y3, y4, y5, y6, y7, y8, y9, y10, y11, y12, y13, y14⟩ := CallAt.moved HCK.out hSw HBL.out
                go_simp
                (try with_reducible rfl)
              (try simp only [Act.put, List.getElem_toArray, List.getElem_cons_zero, List.getElem_cons_succ, List.setIfInBounds_toArray, List.set_cons_zero, List.set_cons_succ])
              refine wpAnyH_done (by decide +kernel) ?_ _
              go_wp2_with fail
              go_ret
              exact ⟨rfl, hcur⟩
            · have h1b : decide (since ≤ since') = false := decide_eq_false h1
              have H1 := Lib.hid (show since' < since by omega)
              clear h1
              refine wpAnyH_take (i := 10) (v := ?_) rfl (by decide +kernel) (by decide +kernel) (by decide +kernel) (fun _ _ _ h => h) (Or.inl ⟨by rfl, ?hy⟩) hcur ?_
              case hy =>
                intro w1 hSw
                (try dsimp only at hSw)
                obtain ⟨x0, x1, x2, x3, x4, x5, x6, x7, x8, x9, x10, x11, x12, x13, x14⟩ := CallAt.moved HCJ.out hSw HBL.out
                obtain ⟨y0, y1, y2, y3, y4, y5, y6, y7, y8, y9, y10, y11, y12, y13, y14⟩ := CallAt.moved HCK.out hSw HBL.out
                go_simp
                (try with_reducible rfl)
              (try simp only [Act.put, List.getElem_toArray, List.getElem_cons_zero, List.getElem_cons_succ, List.setIfInBounds_toArray, List.set_cons_zero, List.set_cons_succ])
              refine wpAnyH_take (i := 11) (v := ?_) rfl (by decide +kernel) (by decide +kernel) (by decide +kernel) (fun _ _ _ h => h) (Or.inl ⟨by rfl, ?hy⟩) hcur ?_
              case hy =>
                intro w1 hSw
                (try dsimp only at hSw)
                obtain ⟨x0, x1, x2, x3, x4, x5, x6, x7, x8, x9, x10, x11, x12, x13, x14⟩ := CallAt.moved HCJ.out hSw HBL.out
                obtain ⟨y0, y1, y2, y3, y4, y5, y6, y7, y8, y9, y10, y11, y12, y13, y14⟩ := CallAt.moved HCK.out hSw HBL.out
                go_simp
                (try with_reducible rfl)
              (try simp only [Act.put, List.getElem_toArray, List.getElem_cons_zero, List.getElem_cons_succ, List.setIfInBounds_toArray, List.set_cons_zero, List.set_cons_succ])
              refine wpAnyH_take (i := 12) (v := ?_) rfl (by decide +kernel) (by decide +kernel) (by decide +kernel) (fun _ _ _ h => h) (Or.inl ⟨by rfl, ?hy⟩) hcur ?_
              case hy =>
                intro w1 hSw
                (try dsimp only at hSw)
                obtain ⟨x0, x1, x2, x3, x4, x5, x6, x7, x8, x9, x10, x11, x12, x13, x14⟩ := CallAt.moved HCJ.out hSw HBL.out
                obtain ⟨y0, y1, y2, y3, y4, y5, y6, y7, y8, y9, y10, y11, y12, y13, y14⟩ := CallAt.moved HCK.out hSw HBL.out
                go_simp
                (try with_reducible rfl)
              (try simp only [Act.put, List.getElem_toArray, List.getElem_cons_zero, List.getElem_cons_succ, List.setIfInBounds_toArray, List.set_cons_zero, List.set_cons_succ])
              refine wpAnyH_take (i := 13) (v := ?_) rfl (by decide +kernel) (by decide +kernel) (by decide +kernel) (fun _ _ _ h => h) (Or.inl ⟨by rfl, ?hy⟩) hcur ?_
              case hy =>
                intro w1 hSw
                (try dsimp only at hSw)
                obtain ⟨x0, x1, x2, x3, x4, x5, x6, x7, x8, x9, x10, x11, x12, x13, x14⟩ := CallAt.moved HCJ.out hSw HBL.out
                obtain ⟨y0, y1, y2, y3, y4, y5, y6, y7, y8, y9, y10, y11, y12, y13, y14⟩ := CallAt.moved HCK.out hSw HBL.out
                go_simp
                (try with_reducible rfl)
              (try simp only [Act.put, List.getElem_toArray, List.getElem_cons_zero, List.getElem_cons_succ, List.setIfInBounds_toArray, List.set_cons_zero, List.set_cons_succ])
              refine wpAnyH_take (i := 14) (v := ?_) rfl (by decide +kernel) (by decide +kernel) (by decide +kernel) (fun _ _ _ h => h) (Or.inl ⟨by rfl, ?hy⟩) hcur ?_
              case hy =>
                intro w1 hSw
                (try dsimp only at hSw)
                obtain ⟨x0, x1, x2, x3, x4, x5, x6, x7, x8, x9, x10, x11, x12, x13, x14⟩ := CallAt.moved HCJ.out hSw HBL.out
                obtain ⟨y0, y1, y2, y3, y4, y5, y6, y7, y8, y9, y10, y11, y12, y13, y14⟩ := CallAt.moved HCK.out hSw HBL.out
                go_simp
                (try with_reducible rfl)
              (try simp only [Act.put, List.getElem_toArray, List.getElem_cons_zero, List.getElem_cons_succ, List.setIfInBounds_toArray, List.set_cons_zero, List.set_cons_succ])
              refine wpAnyH_take (i := 15) (v := ?_) rfl (by decide +kernel) (by decide +kernel) (by decide +kernel) (fun _ _ _ h => h) (Or.inl ⟨by rfl, ?hy⟩) hcur ?_
              case hy =>
                intro w1 hSw
                (try dsimp only at hSw)
                obtain ⟨x0, x1, x2, x3, x4, x5, x6, x7, x8, x9, x10, x11, x12, x13, x14⟩ := CallAt.moved HCJ.out hSw HBL.out
                obtain ⟨y0, y1, y2, y3, y4, y5, y6, y7, y8, y9, y10, y11, y12, y13, y14⟩ := CallAt.moved HCK.out hSw HBL.out
                go_simp
                (try with_reducible rfl)
              (try simp only [Act.put, List.getElem_toArray, List.getElem_cons_zero, List.getElem_cons_succ, List.setIfInBounds_toArray, List.set_cons_zero, List.set_cons_succ])
              refine wpAnyH_take (i := 16) (v := ?_) rfl (by decide +kernel) (by decide +kernel) (by decide +kernel) (fun _ _ _ h => h) (Or.inl ⟨by rfl, ?hy⟩) hcur ?_
              case hy =>
                intro w1 hSw
                (try dsimp only at hSw)
                obtain ⟨x0, x1, x2, x3, x4, x5, x6, x7, x8, x9, x10, x11, x12, x13, x14⟩ := CallAt.moved HCJ.out hSw HBL.out
                obtain ⟨y0, y1, y2, y3, y4, y5, y6, y7, y8, y9, y10, y11, y12, y13, y14⟩ := CallAt.moved HCK.out hSw HBL.out
                go_simp
                (try with_reducible rfl)
              (try simp only [Act.put, List.getElem_toArray, List.getElem_cons_zero, List.getElem_cons_succ, List.setIfInBounds_toArray, List.set_cons_zero, List.set_cons_succ])
              refine wpAnyH_take (i := 17) (v := ?_) rfl (by decide +kernel) (by decide +kernel) (by decide +kernel) (fun _ _ _ h => h) (Or.inl ⟨by rfl, ?hy⟩) hcur ?_
              case hy =>
                intro w1 hSw
                (try dsimp only at hSw)
                obtain ⟨x0, x1, x2, x3, x4, x5, x6, x7, x8, x9, x10, x11, x12, x13, x14⟩ := CallAt.moved HCJ.out hSw HBL.out
                obtain ⟨y0, y1, y2, y3, y4, y5, y6, y7, y8, y9, y10, y11, y12, y13, y14⟩ := CallAt.moved HCK.out hSw HBL.out
                go_simp
                (try with_reducible rfl)
              (try simp only [Act.put, List.getElem_toArray, List.getElem_cons_zero, List.getElem_cons_succ, List.setIfInBounds_toArray, List.set_cons_zero, List.set_cons_succ])
              refine wpAnyH_take (i := 18) (v := ?_) rfl (by decide +kernel) (by decide +kernel) (by decide +kernel) (fun _ _ _ h => h) (Or.inl ⟨by rfl, ?hy⟩) hcur ?_
              case hy =>
                intro w1 hSw
                (try dsimp only at hSw)
                obtain ⟨x0, x1, x2, x3, x4, x5, x6, x7, x8, x9, x10, x11, x12, x13, x14⟩ := CallAt.moved HCJ.out hSw HBL.out
                obtain ⟨y0, y1, y2, y3, y4, y5, y6, y7, y8, y9, y10, y11, y12, y13, y14⟩ := CallAt.moved HCK.out hSw HBL.out
                go_simp
                (try with_reducible rfl)
              (try simp only [Act.put, List.getElem_toArray, List.getElem_cons_zero, List.getElem_cons_succ, List.setIfInBounds_toArray, List.set_cons_zero, List.set_cons_succ])
              refine wpAnyH_take (i := 19) (v := ?_) rfl (by decide +kernel) (by decide +kernel) (by decide +kernel) (fun _ _ _ h => h) (Or.inl ⟨by rfl, ?hy⟩) hcur ?_
              case hy =>
                intro w1 hSw
                (try dsimp only at hSw)
                obtain ⟨x0, x1, x2, x3, x4, x5, x6, x7, x8, x9, x10, x11, x12, x13, x14⟩ := CallAt.moved HCJ.out hSw HBL.out
                obtain ⟨y0, y1, y2, y3, y4, y5, y6, y7, y8, y9, y10, y11, y12, y13, y14⟩ := CallAt.moved HCK.out hSw HBL.out
                go_simp
                (try with_reducible rfl)
              (try simp only [Act.put, List.getElem_toArray, List.getElem_cons_zero, List.getElem_cons_succ, List.setIfInBounds_toArray, List.set_cons_zero, List.set_cons_succ])
              refine wpAnyH_take (i := 20) (v := ?_) rfl (by decide +kernel) (by decide +kernel) (by decide +kernel) (fun _ _ _ h => h) (Or.inl ⟨by rfl, ?hy⟩) hcur ?_
              case hy =>
                intro w1 hSw
                (try dsimp only at hSw)
                obtain ⟨x0, x1, x2, x3, x4, x5, x6, x7, x8, x9, x10, x11, x12, x13, x14⟩ := CallAt.moved HCJ.out hSw HBL.out
                obtain ⟨y0, y1, y2, y3, y4, y5, y6, y7, y8, y9, y10, y11, y12, y13, y14⟩ := CallAt.moved HCK.out hSw HBL.out
                go_simp
                (try with_reducible rfl)
              (try simp only [Act.put, List.getElem_toArray, List.getElem_cons_zero, List.getElem_cons_succ, List.setIfInBounds_toArray, List.set_cons_zero, List.set_cons_succ])
              refine wpAnyH_take (i := 21) (v := ?_) rfl (by decide +kernel) (by decide +kernel) (by decide +kernel) (fun _ _ _ h => h) (Or.inl ⟨by rfl, ?hy⟩) hcur ?_
              case hy =>
                intro w1 hSw
                (try dsimp only at hSw)
                obtain ⟨x0, x1, x2, x3, x4, x5, x6, x7, x8, x9, x10, x11, x12, x13, x14⟩ := CallAt.moved HCJ.out hSw HBL.out
                obtain ⟨y0, y1, y2, y3, y4, y5, y6, y7, y8, y9, y10, y11, y12, y13, y14⟩ := CallAt.moved HCK.out hSw HBL.out
                go_simp
                (try with_reducible rfl)
              (try simp only [Act.put, List.getElem_toArray, List.getElem_cons_zero, List.getElem_cons_succ, List.setIfInBounds_toArray, List.set_cons_zero, List.set_cons_succ])
              by_cases h2 : thread' = thread
              · have h2b : (thread' == thread) = true := beq_iff_eq.2 h2
                have H2 := Lib.hid h2
                clear h2
                refine wpAnyH_take (i := 22) (v := ?_) rfl (by decide +kernel) (by decide +kernel) (by decide +kernel) (fun _ _ _ h => h) (Or.inl ⟨by rfl, ?hy⟩) hcur ?_
                case hy =>
                  intro w1 hSw
                  (try dsimp only at hSw)
                  obtain ⟨x0, x1, x2, x3, x4, x5, x6, x7, x8, x9, x10, x11, x12, x13, x14⟩ := CallAt.moved HCJ.out hSw HBL.out
                  obtain ⟨y0, y1, y2, y3, y4, y5, y6, y7, y8, y9, y10, y11, y12, y13, y14⟩ := CallAt.moved HCK.out hSw HBL.out
                  go_simp
                  (try with_reducible rfl)
                (try simp only [Act.put, List.getElem_toArray, List.getElem_cons_zero, List.getElem_cons_succ, List.setIfInBounds_toArray, List.set_cons_zero, List.set_cons_succ])
                refine wpAnyH_take (i := 23) (v := ?_) rfl (by decide +kernel) (by decide +kernel) (by decide +kernel) (fun _ _ _ h => h) (Or.inl ⟨by rfl, ?hy⟩) hcur ?_
                case hy =>
                  intro w1 hSw
                  (try dsimp only at hSw)
                  obtain ⟨x0, x1, x2, x3, x4, x5, x6, x7, x8, x9, x10, x11, x12, x13, x14⟩ := CallAt.moved HCJ.out hSw HBL.out
                  obtain ⟨y0, y1, y2, y3, y4, y5, y6, y7, y8, y9, y10, y11, y12, y13, y14⟩ := CallAt.moved HCK.out hSw HBL.out
                  go_simp
                  (try with_reducible rfl)
                (try simp only [Act.put, List.getElem_toArray, List.getElem_cons_zero, List.getElem_cons_succ, List.setIfInBounds_toArray, List.set_cons_zero, List.set_cons_succ])
                refine wpAnyH_take (i := 24) (v := ?_) rfl (by decide +kernel) (by decide +kernel) (by decide +kernel) (fun _ _ _ h => h) (Or.inl ⟨by rfl, ?hy⟩) hcur ?_
                case hy =>
                  intro w1 hSw
                  (try dsimp only at hSw)
                  obtain ⟨x0, x1, x2, x3, x4, x5, x6, x7, x8, x9, x10, x11, x12, x13, x14⟩ := CallAt.moved HCJ.out hSw HBL.out
                  obtain ⟨y0, y1, y2, y3, y4, y5, y6, y7, y8, y9, y10, y11, y12, y13, y14⟩ := CallAt.moved HCK.out hSw HBL.out
                  go_simp
                  (try with_reducible rfl)
                (try simp only [Act.put, List.getElem_toArray, List.getElem_cons_zero, List.getElem_cons_succ, List.setIfInBounds_toArray, List.set_cons_zero, List.set_cons_succ])
                refine wpAnyH_take (i := 25) (v := ?_) rfl (by decide +kernel) (by decide +kernel) (by decide +kernel) (fun _ _ _ h => h) (Or.inl ⟨by rfl, ?hy⟩) hcur ?_
                case hy =>
                  intro w1 hSw
                  (try dsimp only at hSw)
                  obtain ⟨x0, x1, x2, x3, x4, x5, x6, x7, x8, x9, x10, x11, x12, x13, x14⟩ := CallAt.moved HCJ.out hSw HBL.out
                  obtain ⟨y0, y1, y2, y3, y4, y5, y6, y7, y8, y9, y10, y11, y12, y13, y14⟩ := CallAt.moved HCK.out hSw HBL.out
                  go_simp
                  (try with_reducible rfl)
                (try simp only [Act.put, List.getElem_toArray, List.getElem_cons_zero, List.getElem_cons_succ, List.setIfInBounds_toArray, List.set_cons_zero, List.set_cons_succ])
                refine wpAnyH_take (i := 26) (v := ?_) rfl (by decide +kernel) (by decide +kernel) (by decide +kernel) (fun _ _ _ h => h) (Or.inl ⟨by rfl, ?hy⟩) hcur ?_
                case hy =>
                  intro w1 hSw
                  (try dsimp only at hSw)
                  obtain ⟨x0, x1, x2, x3, x4, x5, x6, x7, x8, x9, x10, x11, x12, x13, x14⟩ := CallAt.moved HCJ.out hSw HBL.out
                  obtain ⟨y0, y1, y2, y3, y4, y5, y6, y7, y8, y9, y10, y11, y12, y13, y14⟩ := CallAt.moved HCK.out hSw HBL.out
                  go_simp
                  (try with_reducible rfl)
                (try simp only [Act.put, List.getElem_toArray, List.getElem_cons_zero, List.getElem_cons_succ, List.setIfInBounds_toArray, List.set_cons_zero, List.set_cons_succ])
                refine wpAnyH_take (i := 27) (v := ?_) rfl (by decide +kernel) (by decide +kernel) (by decide +kernel) (fun _ _ _ h => h) (Or.inl ⟨by rfl, ?hy⟩) hcur ?_
                case hy =>
                  intro w1 hSw
                  (try dsimp only at hSw)
                  obtain ⟨x0, x1, x2, x3, x4, x5, x6, x7, x8, x9, x10, x11, x12, x13, x14⟩ := CallAt.moved HCJ.out hSw HBL.out
                  obtain ⟨y0, y1, y2, y3, y4, y5, y6, y7, y8, y9, y10, y11, y12, y13, y14⟩ := CallAt.moved HCK.out hSw HBL.out
                  go_simp
                  (try with_reducible rfl)
                (try simp only [Act.put, List.getElem_toArray, List.getElem_cons_zero, List.getElem_cons_succ, List.setIfInBounds_toArray, List.set_cons_zero, List.set_cons_succ])
                refine wpAnyH_take (i := 28) (v := ?_) rfl (by decide +kernel) (by decide +kernel) (by decide +kernel) (fun _ _ _ h => h) (Or.inl ⟨by rfl, ?hy⟩) hcur ?_
                case hy =>
                  intro w1 hSw
                  (try dsimp only at hSw)
                  obtain ⟨x0, x1, x2, x3, x4, x5, x6, x7, x8, x9, x10, x11, x12, x13, x14⟩ := CallAt.moved HCJ.out hSw HBL.out
                  obtain ⟨y0, y1, y2, y3, y4, y5, y6, y7, y8, y9, y10, y11, y12, y13, y14⟩ := CallAt.moved HCK.out hSw HBL.out
                  go_simp
                  (try with_reducible rfl)
                (try simp only [Act.put, List.getElem_toArray, List.getElem_cons_zero, List.getElem_cons_succ, List.setIfInBounds_toArray, List.set_cons_zero, List.set_cons_succ])
                refine wpAnyH_take (i := 29) (v := ?_) rfl (by decide +kernel) (by decide +kernel) (by decide +kernel) (fun _ _ _ h => h) (Or.inl ⟨by rfl, ?hy⟩) hcur ?_
                case hy =>
                  intro w1 hSw
                  (try dsimp only at hSw)
                  obtain ⟨x0, x1, x2, x3, x4, x5, x6, x7, x8, x9, x10, x11, x12, x13, x14⟩ := CallAt.moved HCJ.out hSw HBL.out
                  obtain ⟨y0, y1, y2, y3, y4, y5, y6, y7, y8, y9, y10, y11, y12, y13, y14⟩ := CallAt.moved HCK.out hSw HBL.out
                  go_simp
                  (try with_reducible rfl)
                (try simp only [Act.put, List.getElem_toArray, List.getElem_cons_zero, List.getElem_cons_succ, List.setIfInBounds_toArray, List.set_cons_zero, List.set_cons_succ])
                refine wpAnyH_take (i := 30) (v := ?_) rfl (by decide +kernel) (by decide +kernel) (by decide +kernel) (fun _ _ _ h => h) (Or.inl ⟨by rfl, ?hy⟩) hcur ?_
                case hy =>
                  intro w1 hSw
                  (try dsimp only at hSw)
                  obtain ⟨x0, x1, x2, x3, x4, x5, x6, x7, x8, x9, x10, x11, x12, x13, x14⟩ := CallAt.moved HCJ.out hSw HBL.out
                  obtain ⟨y0, y1, y2, y3, y4, y5, y6, y7, y8, y9, y10, y11, y12, y13, y14⟩ := CallAt.moved HCK.out hSw HBL.out
                  go_simp
                  (try with_reducible rfl)
                (try simp only [Act.put, List.getElem_toArray, List.getElem_cons_zero, List.getElem_cons_succ, List.setIfInBounds_toArray, List.set_cons_zero, List.set_cons_succ])
                refine wpAnyH_take (i := 31) (v := ?_) rfl (by decide +kernel) (by decide +kernel) (by decide +kernel) (fun _ _ _ h => h) (Or.inl ⟨by rfl, ?hy⟩) hcur ?_
                case hy =>
                  intro w1 hSw
                  (try dsimp only at hSw)
                  obtain ⟨x0, x1, x2, x3, x4, x5, x6, x7, x8, x9, x10, x11, x12, x13, x14⟩ := CallAt.moved HCJ.out hSw HBL.out
                  obtain ⟨y0, y1, y2, y3, y4, y5, y6, y7, y8, y9, y10, y11, y12, y13, y14⟩ := CallAt.moved HCK.out hSw HBL.out
                  go_simp
                  (try with_reducible rfl)
                (try simp only [Act.put, List.getElem_toArray, List.getElem_cons_zero, List.getElem_cons_succ, List.setIfInBounds_toArray, List.set_cons_zero, List.set_cons_succ])
                refine wpAnyH_ready (rs := [32]) (by decide +kernel) (by simp) ?_
                refine AllReadyH.cons rfl (fun K hK => ?_) AllReadyH.nil
                go_simp
                refine (HBc.out _).mono ?_
                rintro e X3 ⟨rfl, hbn⟩
                go_wp2_with fail
                refine hK.out _ _ (below_of hcur hbn) (fun hcur2 => ?_)
                clear hK K
                replace hcur := hcur2
                (try dsimp only at hcur)
                clear hcur2
                (try simp only [Act.put, List.getElem_toArray, List.getElem_cons_zero, List.getElem_cons_succ, List.setIfInBounds_toArray, List.set_cons_zero, List.set_cons_succ])
                clear hbn HBc
                cases bb
                · obtain rfl := HPK.out (by rw [HPB.out, decide_eq_true H2.out]; simp)
                  refine wpAnyH_take (i := 33) (v := ?_) rfl (by decide +kernel) (by decide +kernel) (by decide +kernel) (fun _ _ _ h => h) (Or.inl ⟨by rfl, ?hy⟩) hcur ?_
                  case hy =>
                    intro w1 hSw
                    (try dsimp only at hSw)
                    obtain ⟨x0, x1, x2, x3, x4, x5, x6, x7, x8, x9, x10, x11, x12, x13, x14⟩ := CallAt.moved HCJ.out hSw HBL.out
                    obtain ⟨y0, y1, y2, y3, y4, y5, y6, y7, y8, y9, y10, y11, y12, y13, y14⟩ := CallAt.moved HCK.out hSw HBL.out
                    go_simp
                    (try with_reducible rfl)
                  (try simp only [Act.put, List.getElem_toArray, List.getElem_cons_zero, List.getElem_cons_succ, List.setIfInBounds_toArray, List.set_cons_zero, List.set_cons_succ])
                  refine wpAnyH_take (i := 34) (v := ?_) rfl (by decide +kernel) (by decide +kernel) (by decide +kernel) (fun _ _ _ h => h) (Or.inl ⟨by rfl, ?hy⟩) hcur ?_
                  case hy =>
                    intro w1 hSw
                    (try dsimp only at hSw)
                    obtain ⟨x0, x1, x2, x3, x4, x5, x6, x7, x8, x9, x10, x11, x12, x13, x14⟩ := CallAt.moved HCJ.out hSw HBL.out
                    obtain ⟨y0, y1, y2, y3, y4, y5, y6, y7, y8, y9, y10, y11, y12, y13, y14⟩ := CallAt.moved HCK.out hSw HBL.out
                    go_simp
                    (try with_reducible rfl)
                  (try simp only [Act.put, List.getElem_toArray, List.getElem_cons_zero, List.getElem_cons_succ, List.setIfInBounds_toArray, List.set_cons_zero, List.set_cons_succ])
                  refine wpAnyH_take (i := 35) (v := ?_) rfl (by decide +kernel) (by decide +kernel) (by decide +kernel) (fun _ _ _ h => h) (Or.inl ⟨by rfl, ?hy⟩) hcur ?_
                  case hy =>
                    intro w1 hSw
                    (try dsimp only at hSw)
                    obtain ⟨x0, x1, x2, x3, x4, x5, x6, x7, x8, x9, x10, x11, x12, x13, x14⟩ := CallAt.moved HCJ.out hSw HBL.out
                    obtain ⟨y0, y1, y2, y3, y4, y5, y6, y7, y8, y9, y10, y11, y12, y13, y14⟩ := CallAt.moved HCK.out hSw HBL.out
                    go_simp
                    (try with_reducible rfl)
                  (try simp only [Act.put, List.getElem_toArray, List.getElem_cons_zero, List.getElem_cons_succ, List.setIfInBounds_toArray, List.set_cons_zero, List.set_cons_succ])
                  refine wpAnyH_done (by decide +kernel) ?_ _
                  go_wp2_with fail
                  go_ret
                  exact ⟨rfl, hcur⟩
                · have HNX := Lib.hid (HNX0.out (by rw [HPB.out, decide_eq_true H1.out]; simp))
                  clear HNX0
                  refine wpAnyH_take (i := 33) (v := ?_) rfl (by decide +kernel) (by decide +kernel) (by decide +kernel) (fun _ _ _ h => h) (Or.inl ⟨by rfl, ?hy⟩) hcur ?_
                  case hy =>
                    intro w1 hSw
                    (try dsimp only at hSw)
                    obtain ⟨x0, x1, x2, x3, x4, x5, x6, x7, x8, x9, x10, x11, x12, x13, x14⟩ := CallAt.moved HCJ.out hSw HBL.out
                    obtain ⟨y0, y1, y2, y3, y4, y5, y6, y7, y8, y9, y10, y11, y12, y13, y14⟩ := CallAt.moved HCK.out hSw HBL.out
                    go_simp
                    (try with_reducible rfl)
                  (try simp only [Act.put, List.getElem_toArray, List.getElem_cons_zero, List.getElem_cons_succ, List.setIfInBounds_toArray, List.set_cons_zero, List.set_cons_succ])
                  refine wpAnyH_take (i := 34) (v := ?_) rfl (by decide +kernel) (by decide +kernel) (by decide +kernel) (fun _ _ _ h => h) (Or.inl ⟨by rfl, ?hy⟩) hcur ?_
                  case hy =>
                    intro w1 hSw
                    (try dsimp only at hSw)
                    obtain ⟨x0, x1, x2, x3, x4, x5, x6, x7, x8, x9, x10, x11, x12, x13, x14⟩ := CallAt.moved HCJ.out hSw HBL.out
                    obtain ⟨y0, y1, y2, y3, y4, y5, y6, y7, y8, y9, y10, y11, y12, y13, y14⟩ := CallAt.moved HCK.out hSw HBL.out
                    go_simp
                    (try with_reducible rfl)
                  (try simp only [Act.put, List.getElem_toArray, List.getElem_cons_zero, List.getElem_cons_succ, List.setIfInBounds_toArray, List.set_cons_zero, List.set_cons_succ])
                  refine wpAnyH_take (i := 35) (v := ?_) rfl (by decide +kernel) (by decide +kernel) (by decide +kernel) (fun _ _ _ h => h) (Or.inl ⟨by rfl, ?hy⟩) hcur ?_
                  case hy =>
                    intro w1 hSw
                    (try dsimp only at hSw)
                    obtain ⟨x0, x1, x2, x3, x4, x5, x6, x7, x8, x9, x10, x11, x12, x13, x14⟩ := CallAt.moved HCJ.out hSw HBL.out
                    obtain ⟨y0, y1, y2, y3, y4, y5, y6, y7, y8, y9, y10, y11, y12, y13, y14⟩ := CallAt.moved HCK.out hSw HBL.out
                    go_simp
                    (try with_reducible rfl)
                  (try simp only [Act.put, List.getElem_toArray, List.getElem_cons_zero, List.getElem_cons_succ, List.setIfInBounds_toArray, List.set_cons_zero, List.set_cons_succ])
                  refine wpAnyH_done (by decide +kernel) ?_ _
                  go_wp2_with fail
                  go_roundw
                  case rel => exact ⟨k + 1, by go_num, by omega, HNX.out, hcur⟩
                  case measure => simp [intOf]; omega
              · have h2b : (thread' == thread) = false := by simpa using h2
                have HNX := Lib.hid (HNX0.out (by rw [HPB.out, decide_eq_true H1.out, decide_eq_false h2]; rfl))
                clear h2 HNX0
                refine wpAnyH_take (i := 22) (v := ?_) rfl (by decide +kernel) (by decide +kernel) (by decide +kernel) (fun _ _ _ h => h) (Or.inl ⟨by rfl, ?hy⟩) hcur ?_
                case hy =>
                  intro w1 hSw
                  (try dsimp only at hSw)
                  obtain ⟨x0, x1, x2, x3, x4, x5, x6, x7, x8, x9, x10, x11, x12, x13, x14⟩ := CallAt.moved HCJ.out hSw HBL.out
                  obtain ⟨y0, y1, y2, y3, y4, y5, y6, y7, y8, y9, y10, y11, y12, y13, y14⟩ := CallAt.moved HCK.out hSw HBL.out
                  go_simp
                  (try with_reducible rfl)
                (try simp only [Act.put, List.getElem_toArray, List.getElem_cons_zero, List.getElem_cons_succ, List.setIfInBounds_toArray, List.set_cons_zero, List.set_cons_succ])
                refine wpAnyH_take (i := 23) (v := ?_) rfl (by decide +kernel) (by decide +kernel) (by decide +kernel) (fun _ _ _ h => h) (Or.inl ⟨by rfl, ?hy⟩) hcur ?_
                case hy =>
                  intro w1 hSw
                  (try dsimp only at hSw)
                  obtain ⟨x0, x1, x2, x3, x4, x5, x6, x7, x8, x9, x10, x11, x12, x13, x14⟩ := CallAt.moved HCJ.out hSw HBL.out
                  obtain ⟨y0, y1, y2, y3, y4, y5, y6, y7, y8, y9, y10, y11, y12, y13, y14⟩ := CallAt.moved HCK.out hSw HBL.out
                  go_simp
                  (try with_reducible rfl)
                (try simp only [Act.put, List.getElem_toArray, List.getElem_cons_zero, List.getElem_cons_succ, List.setIfInBounds_toArray, List.set_cons_zero, List.set_cons_succ])
                refine wpAnyH_take (i := 24) rfl (by decide +kernel) (by decide +kernel) (by decide +kernel) (fun _ _ _ h => h) (Or.inr ⟨by rfl, rfl⟩) hcur ?_
                (try simp only [Act.put, List.getElem_toArray, List.getElem_cons_zero, List.getElem_cons_succ, List.setIfInBounds_toArray, List.set_cons_zero, List.set_cons_succ])
                refine wpAnyH_take (i := 25) rfl (by decide +kernel) (by decide +kernel) (by decide +kernel) (fun _ _ _ h => h) (Or.inr ⟨by rfl, rfl⟩) hcur ?_
                (try simp only [Act.put, List.getElem_toArray, List.getElem_cons_zero, List.getElem_cons_succ, List.setIfInBounds_toArray, List.set_cons_zero, List.set_cons_succ])
                refine wpAnyH_take (i := 26) rfl (by decide +kernel) (by decide +kernel) (by decide +kernel) (fun _ _ _ h => h) (Or.inr ⟨by rfl, rfl⟩) hcur ?_
                (try simp only [Act.put, List.getElem_toArray, List.getElem_cons_zero, List.getElem_cons_succ, List.setIfInBounds_toArray, List.set_cons_zero, List.set_cons_succ])
                refine wpAnyH_take (i := 27) rfl (by decide +kernel) (by decide +kernel) (by decide +kernel) (fun _ _ _ h => h) (Or.inr ⟨by rfl, rfl⟩) hcur ?_
                (try simp only [Act.put, List.getElem_toArray, List.getElem_cons_zero, List.getElem_cons_succ, List.setIfInBounds_toArray, List.set_cons_zero, List.set_cons_succ])
                refine wpAnyH_take (i := 28) rfl (by decide +kernel) (by decide +kernel) (by decide +kernel) (fun _ _ _ h => h) (Or.inr ⟨by rfl, rfl⟩) hcur ?_
                (try simp only [Act.put, List.getElem_toArray, List.getElem_cons_zero, List.getElem_cons_succ, List.setIfInBounds_toArray, List.set_cons_zero, List.set_cons_succ])
                refine wpAnyH_take (i := 29) rfl (by decide +kernel) (by decide +kernel) (by decide +kernel) (fun _ _ _ h => h) (Or.inr ⟨by rfl, rfl⟩) hcur ?_
                (try simp only [Act.put, List.getElem_toArray, List.getElem_cons_zero, List.getElem_cons_succ, List.setIfInBounds_toArray, List.set_cons_zero, List.set_cons_succ])
                refine wpAnyH_take (i := 30) rfl (by decide +kernel) (by decide +kernel) (by decide +kernel) (fun _ _ _ h => h) (Or.inr ⟨by rfl, rfl⟩) hcur ?_
                (try simp only [Act.put, List.getElem_toArray, List.getElem_cons_zero, List.getElem_cons_succ, List.setIfInBounds_toArray, List.set_cons_zero, List.set_cons_succ])
                refine wpAnyH_take (i := 31) rfl (by decide +kernel) (by decide +kernel) (by decide +kernel) (fun _ _ _ h => h) (Or.inr ⟨by rfl, rfl⟩) hcur ?_
                (try simp only [Act.put, List.getElem_toArray, List.getElem_cons_zero, List.getElem_cons_succ, List.setIfInBounds_toArray, List.set_cons_zero, List.set_cons_succ])
                refine wpAnyH_take (i := 32) rfl (by decide +kernel) (by decide +kernel) (by decide +kernel) (fun _ _ _ h => h) (Or.inr ⟨by rfl, rfl⟩) hcur ?_
                (try simp only [Act.put, List.getElem_toArray, List.getElem_cons_zero, List.getElem_cons_succ, List.setIfInBounds_toArray, List.set_cons_zero, List.set_cons_succ])
                refine wpAnyH_take (i := 33) rfl (by decide +kernel) (by decide +kernel) (by decide +kernel) (fun _ _ _ h => h) (Or.inr ⟨by rfl, rfl⟩) hcur ?_
                (try simp only [Act.put, List.getElem_toArray, List.getElem_cons_zero, List.getElem_cons_succ, List.setIfInBounds_toArray, List.set_cons_zero, List.set_cons_succ])
                refine wpAnyH_take (i := 34) (v := ?_) rfl (by decide +kernel) (by decide +kernel) (by decide +kernel) (fun _ _ _ h => h) (Or.inl ⟨by rfl, ?hy⟩) hcur ?_
                case hy =>
                  intro w1 hSw
                  (try dsimp only at hSw)
                  obtain ⟨x0, x1, x2, x3, x4, x5, x6, x7, x8, x9, x10, x11, x12, x13, x14⟩ := CallAt.moved HCJ.out hSw HBL.out
                  obtain ⟨y0, y1, y2, y3, y4, y5, y6, y7, y8, y9, y10, y11, y12, y13, y14⟩ := CallAt.moved HCK.out hSw HBL.out
                  go_simp
                  (try with_reducible rfl)
                (try simp only [Act.put, List.getElem_toArray, List.getElem_cons_zero, List.getElem_cons_succ, List.setIfInBounds_toArray, List.set_cons_zero, List.set_cons_succ])
                refine wpAnyH_take (i := 35) (v := ?_) rfl (by decide +kernel) (by decide +kernel) (by decide +kernel) (fun _ _ _ h => h) (Or.inl ⟨by rfl, ?hy⟩) hcur ?_
                case hy =>
                  intro w1 hSw
                  (try dsimp only at hSw)
                  obtain ⟨x0, x1, x2, x3, x4, x5, x6, x7, x8, x9, x10, x11, x12, x13, x14⟩ := CallAt.moved HCJ.out hSw HBL.out
                  obtain ⟨y0, y1, y2, y3, y4, y5, y6, y7, y8, y9, y10, y11, y12, y13, y14⟩ := CallAt.moved HCK.out hSw HBL.out
                  go_simp
                  (try with_reducible rfl)
                (try simp only [Act.put, List.getElem_toArray, List.getElem_cons_zero, List.getElem_cons_succ, List.setIfInBounds_toArray, List.set_cons_zero, List.set_cons_succ])
                refine wpAnyH_done (by decide +kernel) ?_ _
                go_wp2_with fail
                go_roundw
                case rel => exact ⟨k + 1, by go_num, by omega, HNX.out, hcur⟩
                case measure => simp [intOf]; omega
          · have HPN := Lib.hid (show ∀ q (hq : q < xs.length), q < j + 1 → sndC xs[q] = true ∧ ∀ k (hk : k < q), pairB (xs[k]'(Nat.lt_trans hk hq)) xs[q] = true from fun q hq hqj => by
              rcases Nat.lt_succ_iff_lt_or_eq.1 hqj with g | g
              · exact HPRE.out q hq g
              · subst g
                have e := HXJ.out
                exact ⟨(congrArg sndC e.symm).trans HSB.out.symm, fun k2 hk => (congrArg (pairB _) e.symm).trans (H.out.2.1 k2 hk (by omega))⟩)
            have hkj2 : decide ((k : Int) < (j : Int)) = false := decide_eq_false (by omega)
            go_wp2_with fail
            go_roundw
            case rel => exact ⟨j + 1, by go_num, by omega, HPN.out, H.out.2.2⟩
            case measure => simp [intOf]; omega
    · have HF := Lib.hid (HM1.out fun i hi => H.out.2.1 i hi (by omega))
      go_wp2_with fail
      go_ret
      exact ⟨ret_bool HF.out.symm, H.out.2.2⟩

end Go.Proofs.Ythbafbgnclpbpaa
