/- Contract of package leafs: Scan. -/
import Derived.Test.YtcoiadncennhpaaLeafTl2
namespace Go.Proofs.Ytcoiadncennhpaa
open Go.RowKit

theorem Sx.start3c (w : World) (a b c : Obj) : Sx w.heap.size w (((w.alloc a).alloc b).alloc c) [(w.heap.size, a), (w.heap.size + 1, b), (w.heap.size + 1 + 1, c)] := by
  have := (Sx.start2 w a b).alloc c
  rw [alloc_size, alloc_size] at this
  exact this
theorem Ow.top3 {B : Nat} {W0 W : World} {p q r s : Nat × Obj} {R : List RowT} (h : Ow B W0 W [p, q, r, s] R) : Ow B W0 W [p, q, r] R := by
  have key : ∀ (i : Nat) (z : Nat × Obj), [p, q, r][i]? = some z → [p, q, r, s][i]? = some z := by
    intro i z hz
    rcases i with _ | _ | _ | i
    · exact hz
    · exact hz
    · exact hz
    · simp at hz
  exact ⟨⟨h.sx.below, h.sx.le, fun i g o hi => h.sx.has i g o (key i _ hi), fun i j a b hij hi hj => h.sx.ne i j a b hij (key i _ hi) (key j _ hj)⟩, h.own, h.ne, fun i j k a b hi hk hj => h.nl i j k a b hi hk (key j _ hj)⟩

set_option maxRecDepth 100000 in
set_option maxHeartbeats 1000000 in
theorem meant_any (p : PairD) (low high : ByteArray) (bl bh : Nat) (w : World) (hl : w.cell? ⟨bl, 0, none⟩ = some (.string low)) (hh : w.cell? ⟨bh, 0, none⟩ = some (.string high))
    (h1 : bl < w.heap.size) (h2 : bh < w.heap.size) (hp : p.key.size ≤ maxLen) (hlo : low.size ≤ maxLen) (hhi : high.size ≤ maxLen) :
    Calls Try.prog 97 #[.agg (prCells p), .pointer (some ⟨bl, 0, none⟩), .pointer (some ⟨bh, 0, none⟩)] w (Ret (.bool (Pl.withinB low.data.toList high.data.toList p)) w) := by
  have hS := Lib.hid ((Sx.start0 w).alloc (.cells (prCells p) 48))
  have HC1 := Lib.hid (fun W => compare_any low p.key W hlo hp)
  have HC2 := Lib.hid (fun W => compare_any p.key high W hp hhi)
  have HF := Lib.hid (And.intro (And.intro hl h1) (And.intro hh h2))
  have HL1 := Lib.hid (Pl.cmp_le (a := low.data.toList) (b := p.key.data.toList))
  have HL2 := Lib.hid (Pl.cmp_le (a := p.key.data.toList) (b := high.data.toList))
  rw [show Pl.withinB low.data.toList high.data.toList p = (!Pl.ls p.key.data.toList low.data.toList && !Pl.ls high.data.toList p.key.data.toList) from rfl]
  clear hl hh h1 h2 hp hlo hhi
  generalize Pl.cmp low.data.toList p.key.data.toList = z1 at HC1 HL1
  generalize Pl.cmp p.key.data.toList high.data.toList = z2 at HC2 HL2
  generalize Pl.ls p.key.data.toList low.data.toList = r1 at HL1 ⊢
  generalize Pl.ls high.data.toList p.key.data.toList = r2 at HL2 ⊢
  simp only [prCells, List.nil_append] at hS ⊢
  go_enter Try.func97, Try.ntmps97
  go_upto_region 1 with fail
  generalize w.alloc _ = W at hS ⊢
  obtain ⟨y0, y1, -, -⟩ := pr_facts (hS.out.has 0 _ _ rfl).1
  have c0 := (hS.out.below.cell (p := ⟨bl, 0, none⟩) HF.out.1.2).trans HF.out.1.1
  go_wp2_with fail
  refine (HC1.out _).mono ?_
  rintro e wn ⟨rfl, hbn⟩
  replace hS := Lib.hid (hS.out.call hbn)
  clear hbn c0 y0 y1 HC1
  cases r1
  · have hz : decide (z1 ≤ 0) = true := decide_eq_true (HL1.out.2 rfl)
    obtain ⟨y0, y1, -, -⟩ := pr_facts (hS.out.has 0 _ _ rfl).1
    have c1 := (hS.out.below.cell (p := ⟨bh, 0, none⟩) HF.out.2.2).trans HF.out.2.1
    go_wp2_with fail
    refine (HC2.out _).mono ?_
    rintro e wm ⟨rfl, hbm⟩
    replace hS := Lib.hid (hS.out.call hbm)
    clear hbm c1 y0 y1 HC2
    have HR := Lib.hid (show decide (z2 ≤ 0) = !r2 by
      cases r2
      · exact decide_eq_true (HL2.out.2 rfl)
      · exact decide_eq_false (fun q => by have := HL2.out.1 q; cases this))
    go_wp2_with fail
    go_ret
    exact ⟨ret_bool (by first | exact HR.out | simpa using HR.out), hS.out.below⟩
  · have hz : decide (z1 ≤ 0) = false := decide_eq_false (fun q => by have := HL1.out.1 q; cases this)
    go_wp2_with fail
    go_ret
    exact ⟨ret_bool (by simp), hS.out.below⟩

theorem filter_take1 {l : List PairD} {f : PairD → Bool} {j : Nat} (hj : j < l.length) : (l.take (j + 1)).filter f = (l.take j).filter f ++ (if f l[j] = true then [l[j]] else []) := by
  rw [List.take_add_one, List.getElem?_eq_getElem hj, Option.toList, List.filter_append]
  congr 1
  cases h : f l[j] <;> simp [List.filter_cons, h]
theorem scan_out {r : List PairD} {low high : List UInt8} {limit : Int} {j : Nat} (hj : j < r.length) (hf : Pl.withinB low high r[j] = false) : Pl.scanL (r.take (j + 1)) low high limit = Pl.scanL (r.take j) low high limit := by
  unfold Pl.scanL
  rw [filter_take1 hj, hf, if_neg Bool.false_ne_true, List.append_nil]
theorem scan_full {r : List PairD} {low high : List UInt8} {limit : Int} {j : Nat} (hj : j < r.length) (hm : ¬ ((Pl.scanL (r.take j) low high limit).length : Int) < limit) : Pl.scanL (r.take (j + 1)) low high limit = Pl.scanL (r.take j) low high limit := by
  unfold Pl.scanL at hm ⊢
  rw [filter_take1 hj, List.take_append_of_le_length]
  rw [List.length_take] at hm
  omega
theorem scan_push {r : List PairD} {low high : List UInt8} {limit : Int} {j : Nat} (hj : j < r.length) (hf : Pl.withinB low high r[j] = true) (hm : ((Pl.scanL (r.take j) low high limit).length : Int) < limit) : Pl.scanL (r.take (j + 1)) low high limit = Pl.scanL (r.take j) low high limit ++ [r[j]] := by
  unfold Pl.scanL at hm ⊢
  rw [List.length_take] at hm
  rw [filter_take1 hj, hf, if_pos rfl]
  generalize List.filter (Pl.withinB low high) (List.take j r) = xs at hm ⊢
  have hx : xs.length < limit.toNat := by omega
  rw [List.take_of_length_le (l := xs ++ [r[j]]) (by rw [List.length_append, List.length_singleton]; omega), List.take_of_length_le (l := xs) (by omega)]

theorem run_cut_all (A : Option Addr) (m c : Nat) (W : World) (h : m ≤ c) : (Instr.slice 52 (.slice A m c) none (some (.int .i64 m)) (some (.int .i64 m))).run Try.prog W = .ok (.slice A m m) W := by
  have hs : (sizeOf (Try.prog.elem 52)).run Try.prog W = .ok 2 W := by kernel_rfl
  rw [run_slice_hm W 52 A m c (by kernel_rfl) .i64 .i64 m m (by omega) (by omega) (by omega), hs]
  simp only [Result.andThen, sliced, Int.toNat_natCast, Nat.sub_zero, Nat.zero_mul]
  cases A <;> simp [Addr.add]

/-- A row of pairs that is as long as it may be, and whether there is more. -/
def ScanRet (l : List PairD) (more : Bool) (w : World) (e : Ending) (w' : World) : Prop :=
  ∃ A, e = .returned (.tuple #[.slice A l.length l.length, .bool more]) ∧ Prs w' A l.length l ∧ Below w.heap.size w w'

theorem prs_of_own' {w : World} {B n c : Nat} {A : Option Addr} {xs : List PairD} (h : w.ownsRow B 48 2 (.slice A n c) n (prRow xs)) (hn : xs.length = n) : Prs w A n xs := prs_of_own h hn
theorem own_le {w : World} {B n c s : Nat} {T : TypeId} {A : Option Addr} {xs : List Value} (h : w.ownsRow B T s (.slice A n c) n xs) : n ≤ c := by
  rcases h.2 with ⟨e, h0⟩ | ⟨g, cap, cur, e, _, _, hle, _⟩
  · omega
  · injection e with e1 e2 e3
    omega

set_option maxRecDepth 100000 in
set_option maxHeartbeats 4000000 in
theorem leafscan_any (d : Nd) (low high : ByteArray) (limit : Int) (A B C : Option Addr) (ca cb cc : Nat) (w : World) (h : Lies w d A B C ca cb cc) (hl : d.keys.length ≤ 1000) (hlo : low.size ≤ maxLen) (hhi : high.size ≤ maxLen) :
    Calls Try.prog 39 #[.agg (ndCells d A B C ca cb cc), .string low, .string high, .int .i64 limit] w
      (ScanRet (Pl.scanL (Pl.zipP d.keys d.vals) low.data.toList high.data.toList limit) (decide (((Pl.scanL (Pl.zipP d.keys d.vals) low.data.toList high.data.toList limit).length : Int) < limit) && !d.last && !Pl.ls high.data.toList d.high.data.toList) w) := by
  have H00 := Lib.hid h
  have HP := Lib.hid (fun W hW => leafpairs_any d A B C ca cb cc W hW hl)
  have HFI := Lib.hid (show ∀ (z : Nat) (hz : z < (Pl.zipP d.keys d.vals).length), (Pl.zipP d.keys d.vals)[z].key.size ≤ maxLen from fun z hz => by
    have h1 := zip_min d.keys d.vals
    have h2 := Nat.min_le_left d.keys.length d.vals.length
    have h3 := Nat.min_le_right d.keys.length d.vals.length
    rw [Pl.zipP_at z (by omega) (by omega) hz]
    exact h.fit z (by omega))
  have hrl : (Pl.zipP d.keys d.vals).length ≤ 1000 := by
    have h1 := zip_min d.keys d.vals
    have h2 := Nat.min_le_left d.keys.length d.vals.length
    omega
  have hO := Ow.start (Sx.start3c w (.cells (ndCells d A B C ca cb cc) 26) (.cells #[.string low] 9) (.cells #[.string high] 9))
  have HO := Lib.hid hO
  have HCH := Lib.hid (fun W => compare_any d.high high W h.high hhi)
  have HLH := Lib.hid (Pl.cmp_le (a := d.high.data.toList) (b := high.data.toList))
  have HLO := Lib.hid hlo
  have HHI := Lib.hid hhi
  generalize Pl.zipP d.keys d.vals = r at HP HFI hrl ⊢
  generalize Pl.cmp d.high.data.toList high.data.toList = zh at HCH HLH
  generalize Pl.ls high.data.toList d.high.data.toList = rh at HLH ⊢
  clear h hO hlo hhi hl
  obtain ⟨level, nlow, nhigh, last, next, keys, vals, kids⟩ := d
  simp only [ndCells] at HO HP ⊢
  simp only [] at HCH
  have hrl2 : r.length ≤ 9223372036854775807 := by omega
  go_enter Try.func39, Try.ntmps39
  go_upto_region 1 with fail
  generalize ((w.alloc _).alloc _).alloc _ = W at HO ⊢
  obtain ⟨x0, x1, x2, x3, x4, x5, x6, x7, -, -, -, -, -, -, -, -⟩ := nd_facts (HO.out.sx.has 0 _ _ rfl).1
  have hmf : ∀ (fn : Fn) (first cap : Array Value) (w : World), (Instr.makeFunc fn first cap).run Try.prog w = .ok (.func fn first cap) w := fun _ _ _ _ => rfl
  go_wp2_with fail
  refine (HP.out _ (H00.out.up HO.out.below)).mono ?_
  rintro e wn ⟨Ap, cp, rfl, hown, hb⟩
  have hO := (HO.out.row hb hown).nil 48 2
  simp only [List.nil_append, List.cons_append] at hO
  replace HO := Lib.hid hO
  clear hO hown hb HP x0 x1 x2 x3 x4 x5 x6 x7
  go_wp2_with fail
  go_loopw [8, 12, 17] (fun v _ i wr => ∃ (j m : Nat) (A1 : Option Addr) (c1 : Nat), i = .int .i64 j ∧ v = .slice A1 m c1 ∧ Hid (j ≤ r.length ∧ ((Pl.scanL (r.take j) low.data.toList high.data.toList limit).length = m ∧ m ≤ j) ∧
    Ow w.heap.size w wr [(w.heap.size, .cells #[.int .i64 level, .string nlow, .string nhigh, .bool last, .int .i64 next, .slice A keys.length ca, .slice B vals.length cb, .slice C kids.length cc] 26), (w.heap.size + 1, .cells #[.string low] 9), (w.heap.size + 1 + 1, .cells #[.string high] 9)] [⟨48, 2, .slice Ap r.length cp, r.length, prRow r⟩, ⟨48, 2, .slice A1 m c1, m, prRow (Pl.scanL (r.take j) low.data.toList high.data.toList limit)⟩])) (fun _ _ i _ => r.length - (intOf i).toNat)
  case atStart => exact ⟨0, 0, none, 0, rfl, rfl, Nat.zero_le _, ⟨by simp [Pl.scanL], Nat.le_refl _⟩, by
    have := HO.out
    rw [show Pl.scanL (r.take 0) low.data.toList high.data.toList limit = [] by simp [Pl.scanL]]
    exact this⟩
  case round =>
    obtain ⟨j, m, A1, c1, rfl, rfl, H⟩ := hrel
    clear HO
    have HO := Lib.hid H.out.2.2
    have HM := Lib.hid H.out.2.1
    have HJ := Lib.hid H.out.1
    clear H
    have hmb : m ≤ 1000 := by have := HM.out.2; have := HJ.out; omega
    by_cases hlt : j < r.length
    · have HPr : Prs wr Ap r.length r := prs_of_own (HO.out.own 0 _ rfl) rfl
      obtain ⟨b, off, _, hA, hbw, c0, c1'⟩ := HPr.at_ hlt
      have HFj := Lib.hid (HFI.out j hlt)
      have HT0 := Lib.hid (fun q => scan_out (r := r) (low := low.data.toList) (high := high.data.toList) (limit := limit) hlt q)
      have HT1 := Lib.hid (fun q => scan_full (r := r) (low := low.data.toList) (high := high.data.toList) (limit := limit) hlt q)
      have HT2 := Lib.hid (fun q s => scan_push (r := r) (low := low.data.toList) (high := high.data.toList) (limit := limit) hlt q s)
      clear HPr
      generalize r[j] = p at c0 c1' HFj HT0 HT2
      have HCl := Lib.hid (fun W q1 q2 q3 q4 => meant_any p low high (w.heap.size + 1) (w.heap.size + 1 + 1) W q1 q2 q3 q4 HFj.out HLO.out HHI.out)
      generalize Pl.withinB low.data.toList high.data.toList p = rb at HCl HT0 HT2
      have HA := Lib.hid hA
      subst hA
      simp only [prCells] at HCl
      go_upto_region 5 with fail
      have hOw := HO.out.alloc (.cells #[.string p.key, .int .u64 p.val] 48)
      simp only [List.cons_append, List.nil_append] at hOw
      clear c0 c1' hbw HO
      generalize wr.alloc _ = w3 at hOw ⊢
      generalize wr.heap.size = g3 at hOw ⊢
      obtain ⟨x0, x1, -, -⟩ := pr_facts (hOw.sx.has 3 _ _ rfl).1
      have HO := Lib.hid hOw
      clear hOw
      go_wp2_with fail
      refine (HCl.out _ (one_facts (HO.out.sx.has 1 _ _ rfl).1) (one_facts (HO.out.sx.has 2 _ _ rfl).1) (HO.out.sx.lt (i := 1) rfl) (HO.out.sx.lt (i := 2) rfl)).mono ?_
      rintro e w4 ⟨rfl, hbn⟩
      replace HO := Lib.hid (HO.out.call hbn)
      clear hbn x0 x1 HCl
      cases rb
      · have HN := Lib.hid HO.out.top3
        have HTE := Lib.hid (HT0.out rfl)
        clear HO HT0 HT1 HT2
        go_wp2_with fail
        go_roundw
        case rel => exact ⟨j + 1, m, A1, c1, by go_num, rfl, by omega, by rw [HTE.out]; exact ⟨HM.out.1, by have := HM.out.2; omega⟩, by rw [HTE.out]; exact HN.out⟩
        case measure => simp [intOf]; omega
      · by_cases hlm : (m : Int) < limit
        · have hlb : decide ((m : Int) < limit) = true := decide_eq_true hlm
          have HTE := Lib.hid (HT2.out rfl (by rw [HM.out.1]; exact hlm))
          obtain ⟨x0, x1, -, -⟩ := pr_facts (HO.out.sx.has 3 _ _ rfl).1
          obtain ⟨A2, c2, W3, hrun, hc2, hO2⟩ := HO.out.pushP 52 (by kernel_rfl) 1 rfl p (by omega)
          simp only [List.set_cons_zero, List.set_cons_succ] at hO2
          have HN := Lib.hid hO2.top3
          have Hrun := Lib.hid hrun
          simp only [prCells] at Hrun
          clear hrun hO2 hlm HO HT0 HT1 HT2
          go_wp2_with (at_builtin; refine wpList_append_run rfl (.tmp 30) (.tmp 32) 52 rfl rfl rfl Hrun.out ?_)
          go_roundw
          case rel => exact ⟨j + 1, m + 1, A2, c2, by go_num, rfl, by omega, by rw [HTE.out]; exact ⟨by rw [List.length_append, HM.out.1]; rfl, by have := HM.out.2; omega⟩, by rw [HTE.out]; exact HN.out⟩
          case measure => simp [intOf]; omega
        · have hlb : decide ((m : Int) < limit) = false := decide_eq_false hlm
          have HTE := Lib.hid (HT1.out (by rw [HM.out.1]; exact Int.not_lt.1 hlm))
          have HN := Lib.hid HO.out.top3
          clear HO HT0 HT1 HT2 hlm
          go_wp2_with fail
          go_roundw
          case rel => exact ⟨j + 1, m, A1, c1, by go_num, rfl, by omega, by rw [HTE.out]; exact ⟨HM.out.1, by have := HM.out.2; omega⟩, by rw [HTE.out]; exact HN.out⟩
          case measure => simp [intOf]; omega
    · obtain rfl : j = r.length := by have := HJ.out; omega
      rw [List.take_length] at HO HM
      have HML := Lib.hid HM.out.1
      have hmc : m ≤ c1 := own_le (HO.out.own 1 _ rfl)
      clear HM
      generalize hle : Pl.scanL r low.data.toList high.data.toList limit = l at HO HML
      have HLE := Lib.hid hle
      clear hle
      go_upto_region 8 with fail
      generalize wr = W at HO ⊢
      by_cases hlm : (m : Int) < limit
      · have hlb : decide ((m : Int) < limit) = true := decide_eq_true hlm
        cases last
        · have HMO := Lib.hid (show (decide ((l.length : Int) < limit) && !false && !rh) = decide (zh ≤ 0) by
            rw [HML.out, hlb]
            cases rh
            · exact (decide_eq_true (HLH.out.2 rfl)).symm
            · exact (decide_eq_false (fun q => by have := HLH.out.1 q; cases this)).symm)
          clear hlm
          refine wp_region_held_drew (S := fun w' => Below W.heap.size W w') (by kernel_rfl) (Below.drew (Below.refl _ _)) (fun hcur => ?_)
          replace hcur : Below W.heap.size W W.drew := hcur
          generalize W.drew = X0 at hcur ⊢
          refine wpAnyH_take (i := 0) (v := ?_) rfl (by decide +kernel) (by decide +kernel) (by decide +kernel) (fun _ _ _ h => h) (Or.inl ⟨by rfl, ?hy⟩) hcur ?_
          case hy =>
            intro w1 hSw
            replace hSw : Below W.heap.size W w1 := hSw
            obtain ⟨x0, x1, x2, x3, x4, x5, x6, x7, -, -, -, -, -, -, -, -⟩ := nd_facts ((HO.out.sx.call hSw).has 0 _ _ rfl).1
            have y0 := one_facts ((HO.out.sx.call hSw).has 2 _ _ rfl).1
            go_simp
            (try with_reducible rfl)
          (try simp only [Act.put, List.getElem_toArray, List.getElem_cons_zero, List.getElem_cons_succ, List.setIfInBounds_toArray, List.set_cons_zero, List.set_cons_succ])
          refine wpAnyH_take (i := 1) (v := ?_) rfl (by decide +kernel) (by decide +kernel) (by decide +kernel) (fun _ _ _ h => h) (Or.inl ⟨by rfl, ?hy⟩) hcur ?_
          case hy =>
            intro w1 hSw
            replace hSw : Below W.heap.size W w1 := hSw
            obtain ⟨x0, x1, x2, x3, x4, x5, x6, x7, -, -, -, -, -, -, -, -⟩ := nd_facts ((HO.out.sx.call hSw).has 0 _ _ rfl).1
            have y0 := one_facts ((HO.out.sx.call hSw).has 2 _ _ rfl).1
            go_simp
            (try with_reducible rfl)
          (try simp only [Act.put, List.getElem_toArray, List.getElem_cons_zero, List.getElem_cons_succ, List.setIfInBounds_toArray, List.set_cons_zero, List.set_cons_succ])
          refine wpAnyH_take (i := 2) (v := ?_) rfl (by decide +kernel) (by decide +kernel) (by decide +kernel) (fun _ _ _ h => h) (Or.inl ⟨by rfl, ?hy⟩) hcur ?_
          case hy =>
            intro w1 hSw
            replace hSw : Below W.heap.size W w1 := hSw
            obtain ⟨x0, x1, x2, x3, x4, x5, x6, x7, -, -, -, -, -, -, -, -⟩ := nd_facts ((HO.out.sx.call hSw).has 0 _ _ rfl).1
            have y0 := one_facts ((HO.out.sx.call hSw).has 2 _ _ rfl).1
            go_simp
            (try with_reducible rfl)
          (try simp only [Act.put, List.getElem_toArray, List.getElem_cons_zero, List.getElem_cons_succ, List.setIfInBounds_toArray, List.set_cons_zero, List.set_cons_succ])
          refine wpAnyH_take (i := 3) (v := ?_) rfl (by decide +kernel) (by decide +kernel) (by decide +kernel) (fun _ _ _ h => h) (Or.inl ⟨by rfl, ?hy⟩) hcur ?_
          case hy =>
            intro w1 hSw
            replace hSw : Below W.heap.size W w1 := hSw
            obtain ⟨x0, x1, x2, x3, x4, x5, x6, x7, -, -, -, -, -, -, -, -⟩ := nd_facts ((HO.out.sx.call hSw).has 0 _ _ rfl).1
            have y0 := one_facts ((HO.out.sx.call hSw).has 2 _ _ rfl).1
            go_simp
            (try with_reducible rfl)
          (try simp only [Act.put, List.getElem_toArray, List.getElem_cons_zero, List.getElem_cons_succ, List.setIfInBounds_toArray, List.set_cons_zero, List.set_cons_succ])
          refine wpAnyH_take (i := 4) (v := ?_) rfl (by decide +kernel) (by decide +kernel) (by decide +kernel) (fun _ _ _ h => h) (Or.inl ⟨by rfl, ?hy⟩) hcur ?_
          case hy =>
            intro w1 hSw
            replace hSw : Below W.heap.size W w1 := hSw
            obtain ⟨x0, x1, x2, x3, x4, x5, x6, x7, -, -, -, -, -, -, -, -⟩ := nd_facts ((HO.out.sx.call hSw).has 0 _ _ rfl).1
            have y0 := one_facts ((HO.out.sx.call hSw).has 2 _ _ rfl).1
            go_simp
            (try with_reducible rfl)
          (try simp only [Act.put, List.getElem_toArray, List.getElem_cons_zero, List.getElem_cons_succ, List.setIfInBounds_toArray, List.set_cons_zero, List.set_cons_succ])
          refine wpAnyH_take (i := 5) (v := .slice A1 m m) rfl (by decide +kernel) (by decide +kernel) (by decide +kernel) (fun _ _ _ h => h) (Or.inl ⟨by rfl, ?hy⟩) hcur ?_
          case hy =>
            intro w1 hSw
            replace hSw : Below W.heap.size W w1 := hSw
            obtain ⟨x0, x1, x2, x3, x4, x5, x6, x7, -, -, -, -, -, -, -, -⟩ := nd_facts ((HO.out.sx.call hSw).has 0 _ _ rfl).1
            have y0 := one_facts ((HO.out.sx.call hSw).has 2 _ _ rfl).1
            go_simp
            (try exact run_cut_all A1 m c1 _ hmc)
          (try simp only [Act.put, List.getElem_toArray, List.getElem_cons_zero, List.getElem_cons_succ, List.setIfInBounds_toArray, List.set_cons_zero, List.set_cons_succ])
          refine wpAnyH_take (i := 6) (v := ?_) rfl (by decide +kernel) (by decide +kernel) (by decide +kernel) (fun _ _ _ h => h) (Or.inl ⟨by rfl, ?hy⟩) hcur ?_
          case hy =>
            intro w1 hSw
            replace hSw : Below W.heap.size W w1 := hSw
            obtain ⟨x0, x1, x2, x3, x4, x5, x6, x7, -, -, -, -, -, -, -, -⟩ := nd_facts ((HO.out.sx.call hSw).has 0 _ _ rfl).1
            have y0 := one_facts ((HO.out.sx.call hSw).has 2 _ _ rfl).1
            go_simp
            (try with_reducible rfl)
          (try simp only [Act.put, List.getElem_toArray, List.getElem_cons_zero, List.getElem_cons_succ, List.setIfInBounds_toArray, List.set_cons_zero, List.set_cons_succ])
          refine wpAnyH_take (i := 7) (v := ?_) rfl (by decide +kernel) (by decide +kernel) (by decide +kernel) (fun _ _ _ h => h) (Or.inl ⟨by rfl, ?hy⟩) hcur ?_
          case hy =>
            intro w1 hSw
            replace hSw : Below W.heap.size W w1 := hSw
            obtain ⟨x0, x1, x2, x3, x4, x5, x6, x7, -, -, -, -, -, -, -, -⟩ := nd_facts ((HO.out.sx.call hSw).has 0 _ _ rfl).1
            have y0 := one_facts ((HO.out.sx.call hSw).has 2 _ _ rfl).1
            go_simp
            (try with_reducible rfl)
          (try simp only [Act.put, List.getElem_toArray, List.getElem_cons_zero, List.getElem_cons_succ, List.setIfInBounds_toArray, List.set_cons_zero, List.set_cons_succ])
          refine wpAnyH_take (i := 8) (v := ?_) rfl (by decide +kernel) (by decide +kernel) (by decide +kernel) (fun _ _ _ h => h) (Or.inl ⟨by rfl, ?hy⟩) hcur ?_
          case hy =>
            intro w1 hSw
            replace hSw : Below W.heap.size W w1 := hSw
            obtain ⟨x0, x1, x2, x3, x4, x5, x6, x7, -, -, -, -, -, -, -, -⟩ := nd_facts ((HO.out.sx.call hSw).has 0 _ _ rfl).1
            have y0 := one_facts ((HO.out.sx.call hSw).has 2 _ _ rfl).1
            go_simp
            (try with_reducible rfl)
          (try simp only [Act.put, List.getElem_toArray, List.getElem_cons_zero, List.getElem_cons_succ, List.setIfInBounds_toArray, List.set_cons_zero, List.set_cons_succ])
          refine wpAnyH_take (i := 9) (v := ?_) rfl (by decide +kernel) (by decide +kernel) (by decide +kernel) (fun _ _ _ h => h) (Or.inl ⟨by rfl, ?hy⟩) hcur ?_
          case hy =>
            intro w1 hSw
            replace hSw : Below W.heap.size W w1 := hSw
            obtain ⟨x0, x1, x2, x3, x4, x5, x6, x7, -, -, -, -, -, -, -, -⟩ := nd_facts ((HO.out.sx.call hSw).has 0 _ _ rfl).1
            have y0 := one_facts ((HO.out.sx.call hSw).has 2 _ _ rfl).1
            go_simp
            (try with_reducible rfl)
          (try simp only [Act.put, List.getElem_toArray, List.getElem_cons_zero, List.getElem_cons_succ, List.setIfInBounds_toArray, List.set_cons_zero, List.set_cons_succ])
          refine wpAnyH_take (i := 10) (v := ?_) rfl (by decide +kernel) (by decide +kernel) (by decide +kernel) (fun _ _ _ h => h) (Or.inl ⟨by rfl, ?hy⟩) hcur ?_
          case hy =>
            intro w1 hSw
            replace hSw : Below W.heap.size W w1 := hSw
            obtain ⟨x0, x1, x2, x3, x4, x5, x6, x7, -, -, -, -, -, -, -, -⟩ := nd_facts ((HO.out.sx.call hSw).has 0 _ _ rfl).1
            have y0 := one_facts ((HO.out.sx.call hSw).has 2 _ _ rfl).1
            go_simp
            (try with_reducible rfl)
          (try simp only [Act.put, List.getElem_toArray, List.getElem_cons_zero, List.getElem_cons_succ, List.setIfInBounds_toArray, List.set_cons_zero, List.set_cons_succ])
          refine wpAnyH_take (i := 11) (v := ?_) rfl (by decide +kernel) (by decide +kernel) (by decide +kernel) (fun _ _ _ h => h) (Or.inl ⟨by rfl, ?hy⟩) hcur ?_
          case hy =>
            intro w1 hSw
            replace hSw : Below W.heap.size W w1 := hSw
            obtain ⟨x0, x1, x2, x3, x4, x5, x6, x7, -, -, -, -, -, -, -, -⟩ := nd_facts ((HO.out.sx.call hSw).has 0 _ _ rfl).1
            have y0 := one_facts ((HO.out.sx.call hSw).has 2 _ _ rfl).1
            go_simp
            (try with_reducible rfl)
          (try simp only [Act.put, List.getElem_toArray, List.getElem_cons_zero, List.getElem_cons_succ, List.setIfInBounds_toArray, List.set_cons_zero, List.set_cons_succ])
          refine wpAnyH_take (i := 12) (v := ?_) rfl (by decide +kernel) (by decide +kernel) (by decide +kernel) (fun _ _ _ h => h) (Or.inl ⟨by rfl, ?hy⟩) hcur ?_
          case hy =>
            intro w1 hSw
            replace hSw : Below W.heap.size W w1 := hSw
            obtain ⟨x0, x1, x2, x3, x4, x5, x6, x7, -, -, -, -, -, -, -, -⟩ := nd_facts ((HO.out.sx.call hSw).has 0 _ _ rfl).1
            have y0 := one_facts ((HO.out.sx.call hSw).has 2 _ _ rfl).1
            go_simp
            (try with_reducible rfl)
          (try simp only [Act.put, List.getElem_toArray, List.getElem_cons_zero, List.getElem_cons_succ, List.setIfInBounds_toArray, List.set_cons_zero, List.set_cons_succ])
          refine wpAnyH_take (i := 13) (v := ?_) rfl (by decide +kernel) (by decide +kernel) (by decide +kernel) (fun _ _ _ h => h) (Or.inl ⟨by rfl, ?hy⟩) hcur ?_
          case hy =>
            intro w1 hSw
            replace hSw : Below W.heap.size W w1 := hSw
            obtain ⟨x0, x1, x2, x3, x4, x5, x6, x7, -, -, -, -, -, -, -, -⟩ := nd_facts ((HO.out.sx.call hSw).has 0 _ _ rfl).1
            have y0 := one_facts ((HO.out.sx.call hSw).has 2 _ _ rfl).1
            go_simp
            (try with_reducible rfl)
          (try simp only [Act.put, List.getElem_toArray, List.getElem_cons_zero, List.getElem_cons_succ, List.setIfInBounds_toArray, List.set_cons_zero, List.set_cons_succ])
          refine wpAnyH_take (i := 14) (v := ?_) rfl (by decide +kernel) (by decide +kernel) (by decide +kernel) (fun _ _ _ h => h) (Or.inl ⟨by rfl, ?hy⟩) hcur ?_
          case hy =>
            intro w1 hSw
            replace hSw : Below W.heap.size W w1 := hSw
            obtain ⟨x0, x1, x2, x3, x4, x5, x6, x7, -, -, -, -, -, -, -, -⟩ := nd_facts ((HO.out.sx.call hSw).has 0 _ _ rfl).1
            have y0 := one_facts ((HO.out.sx.call hSw).has 2 _ _ rfl).1
            go_simp
            (try with_reducible rfl)
          (try simp only [Act.put, List.getElem_toArray, List.getElem_cons_zero, List.getElem_cons_succ, List.setIfInBounds_toArray, List.set_cons_zero, List.set_cons_succ])
          refine wpAnyH_take (i := 15) (v := ?_) rfl (by decide +kernel) (by decide +kernel) (by decide +kernel) (fun _ _ _ h => h) (Or.inl ⟨by rfl, ?hy⟩) hcur ?_
          case hy =>
            intro w1 hSw
            replace hSw : Below W.heap.size W w1 := hSw
            obtain ⟨x0, x1, x2, x3, x4, x5, x6, x7, -, -, -, -, -, -, -, -⟩ := nd_facts ((HO.out.sx.call hSw).has 0 _ _ rfl).1
            have y0 := one_facts ((HO.out.sx.call hSw).has 2 _ _ rfl).1
            go_simp
            (try with_reducible rfl)
          (try simp only [Act.put, List.getElem_toArray, List.getElem_cons_zero, List.getElem_cons_succ, List.setIfInBounds_toArray, List.set_cons_zero, List.set_cons_succ])
          refine wpAnyH_take (i := 16) (v := ?_) rfl (by decide +kernel) (by decide +kernel) (by decide +kernel) (fun _ _ _ h => h) (Or.inl ⟨by rfl, ?hy⟩) hcur ?_
          case hy =>
            intro w1 hSw
            replace hSw : Below W.heap.size W w1 := hSw
            obtain ⟨x0, x1, x2, x3, x4, x5, x6, x7, -, -, -, -, -, -, -, -⟩ := nd_facts ((HO.out.sx.call hSw).has 0 _ _ rfl).1
            have y0 := one_facts ((HO.out.sx.call hSw).has 2 _ _ rfl).1
            go_simp
            (try with_reducible rfl)
          (try simp only [Act.put, List.getElem_toArray, List.getElem_cons_zero, List.getElem_cons_succ, List.setIfInBounds_toArray, List.set_cons_zero, List.set_cons_succ])
          refine wpAnyH_take (i := 17) (v := ?_) rfl (by decide +kernel) (by decide +kernel) (by decide +kernel) (fun _ _ _ h => h) (Or.inl ⟨by rfl, ?hy⟩) hcur ?_
          case hy =>
            intro w1 hSw
            replace hSw : Below W.heap.size W w1 := hSw
            obtain ⟨x0, x1, x2, x3, x4, x5, x6, x7, -, -, -, -, -, -, -, -⟩ := nd_facts ((HO.out.sx.call hSw).has 0 _ _ rfl).1
            have y0 := one_facts ((HO.out.sx.call hSw).has 2 _ _ rfl).1
            go_simp
            (try with_reducible rfl)
          (try simp only [Act.put, List.getElem_toArray, List.getElem_cons_zero, List.getElem_cons_succ, List.setIfInBounds_toArray, List.set_cons_zero, List.set_cons_succ])
          refine wpAnyH_take (i := 18) (v := ?_) rfl (by decide +kernel) (by decide +kernel) (by decide +kernel) (fun _ _ _ h => h) (Or.inl ⟨by rfl, ?hy⟩) hcur ?_
          case hy =>
            intro w1 hSw
            replace hSw : Below W.heap.size W w1 := hSw
            obtain ⟨x0, x1, x2, x3, x4, x5, x6, x7, -, -, -, -, -, -, -, -⟩ := nd_facts ((HO.out.sx.call hSw).has 0 _ _ rfl).1
            have y0 := one_facts ((HO.out.sx.call hSw).has 2 _ _ rfl).1
            go_simp
            (try with_reducible rfl)
          (try simp only [Act.put, List.getElem_toArray, List.getElem_cons_zero, List.getElem_cons_succ, List.setIfInBounds_toArray, List.set_cons_zero, List.set_cons_succ])
          refine wpAnyH_ready (rs := [19]) (by decide +kernel) (by simp) ?_
          refine AllReadyH.cons rfl (fun K hK => ?_) AllReadyH.nil
          go_simp
          refine (HCH.out _).mono ?_
          rintro e wn ⟨rfl, hbn⟩
          go_wp2_with fail
          refine hK.out _ _ (below_of hcur hbn) (fun _ => ?_)
          clear hK K
          replace hcur := below_of hcur hbn
          clear hbn
          (try simp only [Act.put, List.getElem_toArray, List.getElem_cons_zero, List.getElem_cons_succ, List.setIfInBounds_toArray, List.set_cons_zero, List.set_cons_succ])
          refine wpAnyH_take (i := 20) (v := ?_) rfl (by decide +kernel) (by decide +kernel) (by decide +kernel) (fun _ _ _ h => h) (Or.inl ⟨by rfl, ?hy⟩) hcur ?_
          case hy =>
            intro w1 hSw
            replace hSw : Below W.heap.size W w1 := hSw
            obtain ⟨x0, x1, x2, x3, x4, x5, x6, x7, -, -, -, -, -, -, -, -⟩ := nd_facts ((HO.out.sx.call hSw).has 0 _ _ rfl).1
            have y0 := one_facts ((HO.out.sx.call hSw).has 2 _ _ rfl).1
            go_simp
            (try with_reducible rfl)
          (try simp only [Act.put, List.getElem_toArray, List.getElem_cons_zero, List.getElem_cons_succ, List.setIfInBounds_toArray, List.set_cons_zero, List.set_cons_succ])
          refine wpAnyH_take (i := 21) (v := ?_) rfl (by decide +kernel) (by decide +kernel) (by decide +kernel) (fun _ _ _ h => h) (Or.inl ⟨by rfl, ?hy⟩) hcur ?_
          case hy =>
            intro w1 hSw
            replace hSw : Below W.heap.size W w1 := hSw
            obtain ⟨x0, x1, x2, x3, x4, x5, x6, x7, -, -, -, -, -, -, -, -⟩ := nd_facts ((HO.out.sx.call hSw).has 0 _ _ rfl).1
            have y0 := one_facts ((HO.out.sx.call hSw).has 2 _ _ rfl).1
            go_simp
            (try with_reducible rfl)
          (try simp only [Act.put, List.getElem_toArray, List.getElem_cons_zero, List.getElem_cons_succ, List.setIfInBounds_toArray, List.set_cons_zero, List.set_cons_succ])
          refine wpAnyH_take (i := 22) (v := ?_) rfl (by decide +kernel) (by decide +kernel) (by decide +kernel) (fun _ _ _ h => h) (Or.inl ⟨by rfl, ?hy⟩) hcur ?_
          case hy =>
            intro w1 hSw
            replace hSw : Below W.heap.size W w1 := hSw
            obtain ⟨x0, x1, x2, x3, x4, x5, x6, x7, -, -, -, -, -, -, -, -⟩ := nd_facts ((HO.out.sx.call hSw).has 0 _ _ rfl).1
            have y0 := one_facts ((HO.out.sx.call hSw).has 2 _ _ rfl).1
            go_simp
            (try with_reducible rfl)
          (try simp only [Act.put, List.getElem_toArray, List.getElem_cons_zero, List.getElem_cons_succ, List.setIfInBounds_toArray, List.set_cons_zero, List.set_cons_succ])
          refine wpAnyH_take (i := 23) (v := ?_) rfl (by decide +kernel) (by decide +kernel) (by decide +kernel) (fun _ _ _ h => h) (Or.inl ⟨by rfl, ?hy⟩) hcur ?_
          case hy =>
            intro w1 hSw
            replace hSw : Below W.heap.size W w1 := hSw
            obtain ⟨x0, x1, x2, x3, x4, x5, x6, x7, -, -, -, -, -, -, -, -⟩ := nd_facts ((HO.out.sx.call hSw).has 0 _ _ rfl).1
            have y0 := one_facts ((HO.out.sx.call hSw).has 2 _ _ rfl).1
            go_simp
            (try with_reducible rfl)
          (try simp only [Act.put, List.getElem_toArray, List.getElem_cons_zero, List.getElem_cons_succ, List.setIfInBounds_toArray, List.set_cons_zero, List.set_cons_succ])
          refine wpAnyH_done (by decide +kernel) ?_ _
          have HB2 := Lib.hid (HO.out.call hcur)
          clear hcur
          go_wp2_with fail
          exact bodyPost_ret (v := .tuple #[.slice A1 m m, .bool (decide (zh ≤ 0))]) (by simp [results, Try.results39, go_sem, *]) rfl ⟨A1, by rw [HLE.out, HMO.out, HML.out], by rw [HLE.out, HML.out]; exact prs_of_own' (HB2.out.own 1 _ rfl) HML.out, HB2.out.below⟩
        · have HMO := Lib.hid (show (decide ((l.length : Int) < limit) && !true && !rh) = false by simp)
          clear hlm
          refine wp_region_held_drew (S := fun w' => Below W.heap.size W w') (by kernel_rfl) (Below.drew (Below.refl _ _)) (fun hcur => ?_)
          replace hcur : Below W.heap.size W W.drew := hcur
          generalize W.drew = X0 at hcur ⊢
          refine wpAnyH_take (i := 0) (v := ?_) rfl (by decide +kernel) (by decide +kernel) (by decide +kernel) (fun _ _ _ h => h) (Or.inl ⟨by rfl, ?hy⟩) hcur ?_
          case hy =>
            intro w1 hSw
            replace hSw : Below W.heap.size W w1 := hSw
            obtain ⟨x0, x1, x2, x3, x4, x5, x6, x7, -, -, -, -, -, -, -, -⟩ := nd_facts ((HO.out.sx.call hSw).has 0 _ _ rfl).1
            have y0 := one_facts ((HO.out.sx.call hSw).has 2 _ _ rfl).1
            go_simp
            (try with_reducible rfl)
          (try simp only [Act.put, List.getElem_toArray, List.getElem_cons_zero, List.getElem_cons_succ, List.setIfInBounds_toArray, List.set_cons_zero, List.set_cons_succ])
          refine wpAnyH_take (i := 1) (v := ?_) rfl (by decide +kernel) (by decide +kernel) (by decide +kernel) (fun _ _ _ h => h) (Or.inl ⟨by rfl, ?hy⟩) hcur ?_
          case hy =>
            intro w1 hSw
            replace hSw : Below W.heap.size W w1 := hSw
            obtain ⟨x0, x1, x2, x3, x4, x5, x6, x7, -, -, -, -, -, -, -, -⟩ := nd_facts ((HO.out.sx.call hSw).has 0 _ _ rfl).1
            have y0 := one_facts ((HO.out.sx.call hSw).has 2 _ _ rfl).1
            go_simp
            (try with_reducible rfl)
          (try simp only [Act.put, List.getElem_toArray, List.getElem_cons_zero, List.getElem_cons_succ, List.setIfInBounds_toArray, List.set_cons_zero, List.set_cons_succ])
          refine wpAnyH_take (i := 2) (v := ?_) rfl (by decide +kernel) (by decide +kernel) (by decide +kernel) (fun _ _ _ h => h) (Or.inl ⟨by rfl, ?hy⟩) hcur ?_
          case hy =>
            intro w1 hSw
            replace hSw : Below W.heap.size W w1 := hSw
            obtain ⟨x0, x1, x2, x3, x4, x5, x6, x7, -, -, -, -, -, -, -, -⟩ := nd_facts ((HO.out.sx.call hSw).has 0 _ _ rfl).1
            have y0 := one_facts ((HO.out.sx.call hSw).has 2 _ _ rfl).1
            go_simp
            (try with_reducible rfl)
          (try simp only [Act.put, List.getElem_toArray, List.getElem_cons_zero, List.getElem_cons_succ, List.setIfInBounds_toArray, List.set_cons_zero, List.set_cons_succ])
          refine wpAnyH_take (i := 3) (v := ?_) rfl (by decide +kernel) (by decide +kernel) (by decide +kernel) (fun _ _ _ h => h) (Or.inl ⟨by rfl, ?hy⟩) hcur ?_
          case hy =>
            intro w1 hSw
            replace hSw : Below W.heap.size W w1 := hSw
            obtain ⟨x0, x1, x2, x3, x4, x5, x6, x7, -, -, -, -, -, -, -, -⟩ := nd_facts ((HO.out.sx.call hSw).has 0 _ _ rfl).1
            have y0 := one_facts ((HO.out.sx.call hSw).has 2 _ _ rfl).1
            go_simp
            (try with_reducible rfl)
          (try simp only [Act.put, List.getElem_toArray, List.getElem_cons_zero, List.getElem_cons_succ, List.setIfInBounds_toArray, List.set_cons_zero, List.set_cons_succ])
          refine wpAnyH_take (i := 4) (v := ?_) rfl (by decide +kernel) (by decide +kernel) (by decide +kernel) (fun _ _ _ h => h) (Or.inl ⟨by rfl, ?hy⟩) hcur ?_
          case hy =>
            intro w1 hSw
            replace hSw : Below W.heap.size W w1 := hSw
            obtain ⟨x0, x1, x2, x3, x4, x5, x6, x7, -, -, -, -, -, -, -, -⟩ := nd_facts ((HO.out.sx.call hSw).has 0 _ _ rfl).1
            have y0 := one_facts ((HO.out.sx.call hSw).has 2 _ _ rfl).1
            go_simp
            (try with_reducible rfl)
          (try simp only [Act.put, List.getElem_toArray, List.getElem_cons_zero, List.getElem_cons_succ, List.setIfInBounds_toArray, List.set_cons_zero, List.set_cons_succ])
          refine wpAnyH_take (i := 5) (v := .slice A1 m m) rfl (by decide +kernel) (by decide +kernel) (by decide +kernel) (fun _ _ _ h => h) (Or.inl ⟨by rfl, ?hy⟩) hcur ?_
          case hy =>
            intro w1 hSw
            replace hSw : Below W.heap.size W w1 := hSw
            obtain ⟨x0, x1, x2, x3, x4, x5, x6, x7, -, -, -, -, -, -, -, -⟩ := nd_facts ((HO.out.sx.call hSw).has 0 _ _ rfl).1
            have y0 := one_facts ((HO.out.sx.call hSw).has 2 _ _ rfl).1
            go_simp
            (try exact run_cut_all A1 m c1 _ hmc)
          (try simp only [Act.put, List.getElem_toArray, List.getElem_cons_zero, List.getElem_cons_succ, List.setIfInBounds_toArray, List.set_cons_zero, List.set_cons_succ])
          refine wpAnyH_take (i := 6) (v := ?_) rfl (by decide +kernel) (by decide +kernel) (by decide +kernel) (fun _ _ _ h => h) (Or.inl ⟨by rfl, ?hy⟩) hcur ?_
          case hy =>
            intro w1 hSw
            replace hSw : Below W.heap.size W w1 := hSw
            obtain ⟨x0, x1, x2, x3, x4, x5, x6, x7, -, -, -, -, -, -, -, -⟩ := nd_facts ((HO.out.sx.call hSw).has 0 _ _ rfl).1
            have y0 := one_facts ((HO.out.sx.call hSw).has 2 _ _ rfl).1
            go_simp
            (try with_reducible rfl)
          (try simp only [Act.put, List.getElem_toArray, List.getElem_cons_zero, List.getElem_cons_succ, List.setIfInBounds_toArray, List.set_cons_zero, List.set_cons_succ])
          refine wpAnyH_take (i := 7) (v := ?_) rfl (by decide +kernel) (by decide +kernel) (by decide +kernel) (fun _ _ _ h => h) (Or.inl ⟨by rfl, ?hy⟩) hcur ?_
          case hy =>
            intro w1 hSw
            replace hSw : Below W.heap.size W w1 := hSw
            obtain ⟨x0, x1, x2, x3, x4, x5, x6, x7, -, -, -, -, -, -, -, -⟩ := nd_facts ((HO.out.sx.call hSw).has 0 _ _ rfl).1
            have y0 := one_facts ((HO.out.sx.call hSw).has 2 _ _ rfl).1
            go_simp
            (try with_reducible rfl)
          (try simp only [Act.put, List.getElem_toArray, List.getElem_cons_zero, List.getElem_cons_succ, List.setIfInBounds_toArray, List.set_cons_zero, List.set_cons_succ])
          refine wpAnyH_take (i := 8) (v := ?_) rfl (by decide +kernel) (by decide +kernel) (by decide +kernel) (fun _ _ _ h => h) (Or.inl ⟨by rfl, ?hy⟩) hcur ?_
          case hy =>
            intro w1 hSw
            replace hSw : Below W.heap.size W w1 := hSw
            obtain ⟨x0, x1, x2, x3, x4, x5, x6, x7, -, -, -, -, -, -, -, -⟩ := nd_facts ((HO.out.sx.call hSw).has 0 _ _ rfl).1
            have y0 := one_facts ((HO.out.sx.call hSw).has 2 _ _ rfl).1
            go_simp
            (try with_reducible rfl)
          (try simp only [Act.put, List.getElem_toArray, List.getElem_cons_zero, List.getElem_cons_succ, List.setIfInBounds_toArray, List.set_cons_zero, List.set_cons_succ])
          refine wpAnyH_take (i := 9) (v := ?_) rfl (by decide +kernel) (by decide +kernel) (by decide +kernel) (fun _ _ _ h => h) (Or.inl ⟨by rfl, ?hy⟩) hcur ?_
          case hy =>
            intro w1 hSw
            replace hSw : Below W.heap.size W w1 := hSw
            obtain ⟨x0, x1, x2, x3, x4, x5, x6, x7, -, -, -, -, -, -, -, -⟩ := nd_facts ((HO.out.sx.call hSw).has 0 _ _ rfl).1
            have y0 := one_facts ((HO.out.sx.call hSw).has 2 _ _ rfl).1
            go_simp
            (try with_reducible rfl)
          (try simp only [Act.put, List.getElem_toArray, List.getElem_cons_zero, List.getElem_cons_succ, List.setIfInBounds_toArray, List.set_cons_zero, List.set_cons_succ])
          refine wpAnyH_take (i := 10) (v := ?_) rfl (by decide +kernel) (by decide +kernel) (by decide +kernel) (fun _ _ _ h => h) (Or.inl ⟨by rfl, ?hy⟩) hcur ?_
          case hy =>
            intro w1 hSw
            replace hSw : Below W.heap.size W w1 := hSw
            obtain ⟨x0, x1, x2, x3, x4, x5, x6, x7, -, -, -, -, -, -, -, -⟩ := nd_facts ((HO.out.sx.call hSw).has 0 _ _ rfl).1
            have y0 := one_facts ((HO.out.sx.call hSw).has 2 _ _ rfl).1
            go_simp
            (try with_reducible rfl)
          (try simp only [Act.put, List.getElem_toArray, List.getElem_cons_zero, List.getElem_cons_succ, List.setIfInBounds_toArray, List.set_cons_zero, List.set_cons_succ])
          refine wpAnyH_take (i := 11) (v := ?_) rfl (by decide +kernel) (by decide +kernel) (by decide +kernel) (fun _ _ _ h => h) (Or.inl ⟨by rfl, ?hy⟩) hcur ?_
          case hy =>
            intro w1 hSw
            replace hSw : Below W.heap.size W w1 := hSw
            obtain ⟨x0, x1, x2, x3, x4, x5, x6, x7, -, -, -, -, -, -, -, -⟩ := nd_facts ((HO.out.sx.call hSw).has 0 _ _ rfl).1
            have y0 := one_facts ((HO.out.sx.call hSw).has 2 _ _ rfl).1
            go_simp
            (try with_reducible rfl)
          (try simp only [Act.put, List.getElem_toArray, List.getElem_cons_zero, List.getElem_cons_succ, List.setIfInBounds_toArray, List.set_cons_zero, List.set_cons_succ])
          refine wpAnyH_take (i := 12) (v := ?_) rfl (by decide +kernel) (by decide +kernel) (by decide +kernel) (fun _ _ _ h => h) (Or.inl ⟨by rfl, ?hy⟩) hcur ?_
          case hy =>
            intro w1 hSw
            replace hSw : Below W.heap.size W w1 := hSw
            obtain ⟨x0, x1, x2, x3, x4, x5, x6, x7, -, -, -, -, -, -, -, -⟩ := nd_facts ((HO.out.sx.call hSw).has 0 _ _ rfl).1
            have y0 := one_facts ((HO.out.sx.call hSw).has 2 _ _ rfl).1
            go_simp
            (try with_reducible rfl)
          (try simp only [Act.put, List.getElem_toArray, List.getElem_cons_zero, List.getElem_cons_succ, List.setIfInBounds_toArray, List.set_cons_zero, List.set_cons_succ])
          refine wpAnyH_take (i := 13) (v := ?_) rfl (by decide +kernel) (by decide +kernel) (by decide +kernel) (fun _ _ _ h => h) (Or.inl ⟨by rfl, ?hy⟩) hcur ?_
          case hy =>
            intro w1 hSw
            replace hSw : Below W.heap.size W w1 := hSw
            obtain ⟨x0, x1, x2, x3, x4, x5, x6, x7, -, -, -, -, -, -, -, -⟩ := nd_facts ((HO.out.sx.call hSw).has 0 _ _ rfl).1
            have y0 := one_facts ((HO.out.sx.call hSw).has 2 _ _ rfl).1
            go_simp
            (try with_reducible rfl)
          (try simp only [Act.put, List.getElem_toArray, List.getElem_cons_zero, List.getElem_cons_succ, List.setIfInBounds_toArray, List.set_cons_zero, List.set_cons_succ])
          refine wpAnyH_take (i := 14) (v := ?_) rfl (by decide +kernel) (by decide +kernel) (by decide +kernel) (fun _ _ _ h => h) (Or.inl ⟨by rfl, ?hy⟩) hcur ?_
          case hy =>
            intro w1 hSw
            replace hSw : Below W.heap.size W w1 := hSw
            obtain ⟨x0, x1, x2, x3, x4, x5, x6, x7, -, -, -, -, -, -, -, -⟩ := nd_facts ((HO.out.sx.call hSw).has 0 _ _ rfl).1
            have y0 := one_facts ((HO.out.sx.call hSw).has 2 _ _ rfl).1
            go_simp
            (try with_reducible rfl)
          (try simp only [Act.put, List.getElem_toArray, List.getElem_cons_zero, List.getElem_cons_succ, List.setIfInBounds_toArray, List.set_cons_zero, List.set_cons_succ])
          refine wpAnyH_take (i := 15) (v := ?_) rfl (by decide +kernel) (by decide +kernel) (by decide +kernel) (fun _ _ _ h => h) (Or.inl ⟨by rfl, ?hy⟩) hcur ?_
          case hy =>
            intro w1 hSw
            replace hSw : Below W.heap.size W w1 := hSw
            obtain ⟨x0, x1, x2, x3, x4, x5, x6, x7, -, -, -, -, -, -, -, -⟩ := nd_facts ((HO.out.sx.call hSw).has 0 _ _ rfl).1
            have y0 := one_facts ((HO.out.sx.call hSw).has 2 _ _ rfl).1
            go_simp
            (try with_reducible rfl)
          (try simp only [Act.put, List.getElem_toArray, List.getElem_cons_zero, List.getElem_cons_succ, List.setIfInBounds_toArray, List.set_cons_zero, List.set_cons_succ])
          refine wpAnyH_take (i := 16) rfl (by decide +kernel) (by decide +kernel) (by decide +kernel) (fun _ _ _ h => h) (Or.inr ⟨by rfl, rfl⟩) hcur ?_
          (try simp only [Act.put, List.getElem_toArray, List.getElem_cons_zero, List.getElem_cons_succ, List.setIfInBounds_toArray, List.set_cons_zero, List.set_cons_succ])
          refine wpAnyH_take (i := 17) rfl (by decide +kernel) (by decide +kernel) (by decide +kernel) (fun _ _ _ h => h) (Or.inr ⟨by rfl, rfl⟩) hcur ?_
          (try simp only [Act.put, List.getElem_toArray, List.getElem_cons_zero, List.getElem_cons_succ, List.setIfInBounds_toArray, List.set_cons_zero, List.set_cons_succ])
          refine wpAnyH_take (i := 18) rfl (by decide +kernel) (by decide +kernel) (by decide +kernel) (fun _ _ _ h => h) (Or.inr ⟨by rfl, rfl⟩) hcur ?_
          (try simp only [Act.put, List.getElem_toArray, List.getElem_cons_zero, List.getElem_cons_succ, List.setIfInBounds_toArray, List.set_cons_zero, List.set_cons_succ])
          refine wpAnyH_take (i := 19) rfl (by decide +kernel) (by decide +kernel) (by decide +kernel) (fun _ _ _ h => h) (Or.inr ⟨by rfl, rfl⟩) hcur ?_
          (try simp only [Act.put, List.getElem_toArray, List.getElem_cons_zero, List.getElem_cons_succ, List.setIfInBounds_toArray, List.set_cons_zero, List.set_cons_succ])
          refine wpAnyH_take (i := 20) rfl (by decide +kernel) (by decide +kernel) (by decide +kernel) (fun _ _ _ h => h) (Or.inr ⟨by rfl, rfl⟩) hcur ?_
          (try simp only [Act.put, List.getElem_toArray, List.getElem_cons_zero, List.getElem_cons_succ, List.setIfInBounds_toArray, List.set_cons_zero, List.set_cons_succ])
          refine wpAnyH_take (i := 21) (v := ?_) rfl (by decide +kernel) (by decide +kernel) (by decide +kernel) (fun _ _ _ h => h) (Or.inl ⟨by rfl, ?hy⟩) hcur ?_
          case hy =>
            intro w1 hSw
            replace hSw : Below W.heap.size W w1 := hSw
            obtain ⟨x0, x1, x2, x3, x4, x5, x6, x7, -, -, -, -, -, -, -, -⟩ := nd_facts ((HO.out.sx.call hSw).has 0 _ _ rfl).1
            have y0 := one_facts ((HO.out.sx.call hSw).has 2 _ _ rfl).1
            go_simp
            (try with_reducible rfl)
          (try simp only [Act.put, List.getElem_toArray, List.getElem_cons_zero, List.getElem_cons_succ, List.setIfInBounds_toArray, List.set_cons_zero, List.set_cons_succ])
          refine wpAnyH_take (i := 22) (v := ?_) rfl (by decide +kernel) (by decide +kernel) (by decide +kernel) (fun _ _ _ h => h) (Or.inl ⟨by rfl, ?hy⟩) hcur ?_
          case hy =>
            intro w1 hSw
            replace hSw : Below W.heap.size W w1 := hSw
            obtain ⟨x0, x1, x2, x3, x4, x5, x6, x7, -, -, -, -, -, -, -, -⟩ := nd_facts ((HO.out.sx.call hSw).has 0 _ _ rfl).1
            have y0 := one_facts ((HO.out.sx.call hSw).has 2 _ _ rfl).1
            go_simp
            (try with_reducible rfl)
          (try simp only [Act.put, List.getElem_toArray, List.getElem_cons_zero, List.getElem_cons_succ, List.setIfInBounds_toArray, List.set_cons_zero, List.set_cons_succ])
          refine wpAnyH_take (i := 23) (v := ?_) rfl (by decide +kernel) (by decide +kernel) (by decide +kernel) (fun _ _ _ h => h) (Or.inl ⟨by rfl, ?hy⟩) hcur ?_
          case hy =>
            intro w1 hSw
            replace hSw : Below W.heap.size W w1 := hSw
            obtain ⟨x0, x1, x2, x3, x4, x5, x6, x7, -, -, -, -, -, -, -, -⟩ := nd_facts ((HO.out.sx.call hSw).has 0 _ _ rfl).1
            have y0 := one_facts ((HO.out.sx.call hSw).has 2 _ _ rfl).1
            go_simp
            (try with_reducible rfl)
          (try simp only [Act.put, List.getElem_toArray, List.getElem_cons_zero, List.getElem_cons_succ, List.setIfInBounds_toArray, List.set_cons_zero, List.set_cons_succ])
          refine wpAnyH_done (by decide +kernel) ?_ _
          have HB2 := Lib.hid (HO.out.call hcur)
          clear hcur
          go_wp2_with fail
          exact bodyPost_ret (v := .tuple #[.slice A1 m m, .bool false]) (by simp [results, Try.results39, go_sem, *]) rfl ⟨A1, by rw [HLE.out, HMO.out, HML.out], by rw [HLE.out, HML.out]; exact prs_of_own' (HB2.out.own 1 _ rfl) HML.out, HB2.out.below⟩
      · have hlb : decide ((m : Int) < limit) = false := decide_eq_false hlm
        have HMO := Lib.hid (show (decide ((l.length : Int) < limit) && !last && !rh) = false by rw [HML.out, hlb]; simp)
        clear hlm
        refine wp_region_held_drew (S := fun w' => Below W.heap.size W w') (by kernel_rfl) (Below.drew (Below.refl _ _)) (fun hcur => ?_)
        replace hcur : Below W.heap.size W W.drew := hcur
        generalize W.drew = X0 at hcur ⊢
        refine wpAnyH_take (i := 0) (v := ?_) rfl (by decide +kernel) (by decide +kernel) (by decide +kernel) (fun _ _ _ h => h) (Or.inl ⟨by rfl, ?hy⟩) hcur ?_
        case hy =>
          intro w1 hSw
          replace hSw : Below W.heap.size W w1 := hSw
          obtain ⟨x0, x1, x2, x3, x4, x5, x6, x7, -, -, -, -, -, -, -, -⟩ := nd_facts ((HO.out.sx.call hSw).has 0 _ _ rfl).1
          have y0 := one_facts ((HO.out.sx.call hSw).has 2 _ _ rfl).1
          go_simp
          (try with_reducible rfl)
        (try simp only [Act.put, List.getElem_toArray, List.getElem_cons_zero, List.getElem_cons_succ, List.setIfInBounds_toArray, List.set_cons_zero, List.set_cons_succ])
        refine wpAnyH_take (i := 1) (v := ?_) rfl (by decide +kernel) (by decide +kernel) (by decide +kernel) (fun _ _ _ h => h) (Or.inl ⟨by rfl, ?hy⟩) hcur ?_
        case hy =>
          intro w1 hSw
          replace hSw : Below W.heap.size W w1 := hSw
          obtain ⟨x0, x1, x2, x3, x4, x5, x6, x7, -, -, -, -, -, -, -, -⟩ := nd_facts ((HO.out.sx.call hSw).has 0 _ _ rfl).1
          have y0 := one_facts ((HO.out.sx.call hSw).has 2 _ _ rfl).1
          go_simp
          (try with_reducible rfl)
        (try simp only [Act.put, List.getElem_toArray, List.getElem_cons_zero, List.getElem_cons_succ, List.setIfInBounds_toArray, List.set_cons_zero, List.set_cons_succ])
        refine wpAnyH_take (i := 2) (v := ?_) rfl (by decide +kernel) (by decide +kernel) (by decide +kernel) (fun _ _ _ h => h) (Or.inl ⟨by rfl, ?hy⟩) hcur ?_
        case hy =>
          intro w1 hSw
          replace hSw : Below W.heap.size W w1 := hSw
          obtain ⟨x0, x1, x2, x3, x4, x5, x6, x7, -, -, -, -, -, -, -, -⟩ := nd_facts ((HO.out.sx.call hSw).has 0 _ _ rfl).1
          have y0 := one_facts ((HO.out.sx.call hSw).has 2 _ _ rfl).1
          go_simp
          (try with_reducible rfl)
        (try simp only [Act.put, List.getElem_toArray, List.getElem_cons_zero, List.getElem_cons_succ, List.setIfInBounds_toArray, List.set_cons_zero, List.set_cons_succ])
        refine wpAnyH_take (i := 3) (v := ?_) rfl (by decide +kernel) (by decide +kernel) (by decide +kernel) (fun _ _ _ h => h) (Or.inl ⟨by rfl, ?hy⟩) hcur ?_
        case hy =>
          intro w1 hSw
          replace hSw : Below W.heap.size W w1 := hSw
          obtain ⟨x0, x1, x2, x3, x4, x5, x6, x7, -, -, -, -, -, -, -, -⟩ := nd_facts ((HO.out.sx.call hSw).has 0 _ _ rfl).1
          have y0 := one_facts ((HO.out.sx.call hSw).has 2 _ _ rfl).1
          go_simp
          (try with_reducible rfl)
        (try simp only [Act.put, List.getElem_toArray, List.getElem_cons_zero, List.getElem_cons_succ, List.setIfInBounds_toArray, List.set_cons_zero, List.set_cons_succ])
        refine wpAnyH_take (i := 4) (v := ?_) rfl (by decide +kernel) (by decide +kernel) (by decide +kernel) (fun _ _ _ h => h) (Or.inl ⟨by rfl, ?hy⟩) hcur ?_
        case hy =>
          intro w1 hSw
          replace hSw : Below W.heap.size W w1 := hSw
          obtain ⟨x0, x1, x2, x3, x4, x5, x6, x7, -, -, -, -, -, -, -, -⟩ := nd_facts ((HO.out.sx.call hSw).has 0 _ _ rfl).1
          have y0 := one_facts ((HO.out.sx.call hSw).has 2 _ _ rfl).1
          go_simp
          (try with_reducible rfl)
        (try simp only [Act.put, List.getElem_toArray, List.getElem_cons_zero, List.getElem_cons_succ, List.setIfInBounds_toArray, List.set_cons_zero, List.set_cons_succ])
        refine wpAnyH_take (i := 5) (v := .slice A1 m m) rfl (by decide +kernel) (by decide +kernel) (by decide +kernel) (fun _ _ _ h => h) (Or.inl ⟨by rfl, ?hy⟩) hcur ?_
        case hy =>
          intro w1 hSw
          replace hSw : Below W.heap.size W w1 := hSw
          obtain ⟨x0, x1, x2, x3, x4, x5, x6, x7, -, -, -, -, -, -, -, -⟩ := nd_facts ((HO.out.sx.call hSw).has 0 _ _ rfl).1
          have y0 := one_facts ((HO.out.sx.call hSw).has 2 _ _ rfl).1
          go_simp
          (try exact run_cut_all A1 m c1 _ hmc)
        (try simp only [Act.put, List.getElem_toArray, List.getElem_cons_zero, List.getElem_cons_succ, List.setIfInBounds_toArray, List.set_cons_zero, List.set_cons_succ])
        refine wpAnyH_take (i := 6) (v := ?_) rfl (by decide +kernel) (by decide +kernel) (by decide +kernel) (fun _ _ _ h => h) (Or.inl ⟨by rfl, ?hy⟩) hcur ?_
        case hy =>
          intro w1 hSw
          replace hSw : Below W.heap.size W w1 := hSw
          obtain ⟨x0, x1, x2, x3, x4, x5, x6, x7, -, -, -, -, -, -, -, -⟩ := nd_facts ((HO.out.sx.call hSw).has 0 _ _ rfl).1
          have y0 := one_facts ((HO.out.sx.call hSw).has 2 _ _ rfl).1
          go_simp
          (try with_reducible rfl)
        (try simp only [Act.put, List.getElem_toArray, List.getElem_cons_zero, List.getElem_cons_succ, List.setIfInBounds_toArray, List.set_cons_zero, List.set_cons_succ])
        refine wpAnyH_take (i := 7) (v := ?_) rfl (by decide +kernel) (by decide +kernel) (by decide +kernel) (fun _ _ _ h => h) (Or.inl ⟨by rfl, ?hy⟩) hcur ?_
        case hy =>
          intro w1 hSw
          replace hSw : Below W.heap.size W w1 := hSw
          obtain ⟨x0, x1, x2, x3, x4, x5, x6, x7, -, -, -, -, -, -, -, -⟩ := nd_facts ((HO.out.sx.call hSw).has 0 _ _ rfl).1
          have y0 := one_facts ((HO.out.sx.call hSw).has 2 _ _ rfl).1
          go_simp
          (try with_reducible rfl)
        (try simp only [Act.put, List.getElem_toArray, List.getElem_cons_zero, List.getElem_cons_succ, List.setIfInBounds_toArray, List.set_cons_zero, List.set_cons_succ])
        refine wpAnyH_take (i := 8) (v := ?_) rfl (by decide +kernel) (by decide +kernel) (by decide +kernel) (fun _ _ _ h => h) (Or.inl ⟨by rfl, ?hy⟩) hcur ?_
        case hy =>
          intro w1 hSw
          replace hSw : Below W.heap.size W w1 := hSw
          obtain ⟨x0, x1, x2, x3, x4, x5, x6, x7, -, -, -, -, -, -, -, -⟩ := nd_facts ((HO.out.sx.call hSw).has 0 _ _ rfl).1
          have y0 := one_facts ((HO.out.sx.call hSw).has 2 _ _ rfl).1
          go_simp
          (try with_reducible rfl)
        (try simp only [Act.put, List.getElem_toArray, List.getElem_cons_zero, List.getElem_cons_succ, List.setIfInBounds_toArray, List.set_cons_zero, List.set_cons_succ])
        refine wpAnyH_take (i := 9) (v := ?_) rfl (by decide +kernel) (by decide +kernel) (by decide +kernel) (fun _ _ _ h => h) (Or.inl ⟨by rfl, ?hy⟩) hcur ?_
        case hy =>
          intro w1 hSw
          replace hSw : Below W.heap.size W w1 := hSw
          obtain ⟨x0, x1, x2, x3, x4, x5, x6, x7, -, -, -, -, -, -, -, -⟩ := nd_facts ((HO.out.sx.call hSw).has 0 _ _ rfl).1
          have y0 := one_facts ((HO.out.sx.call hSw).has 2 _ _ rfl).1
          go_simp
          (try with_reducible rfl)
        (try simp only [Act.put, List.getElem_toArray, List.getElem_cons_zero, List.getElem_cons_succ, List.setIfInBounds_toArray, List.set_cons_zero, List.set_cons_succ])
        refine wpAnyH_take (i := 10) (v := ?_) rfl (by decide +kernel) (by decide +kernel) (by decide +kernel) (fun _ _ _ h => h) (Or.inl ⟨by rfl, ?hy⟩) hcur ?_
        case hy =>
          intro w1 hSw
          replace hSw : Below W.heap.size W w1 := hSw
          obtain ⟨x0, x1, x2, x3, x4, x5, x6, x7, -, -, -, -, -, -, -, -⟩ := nd_facts ((HO.out.sx.call hSw).has 0 _ _ rfl).1
          have y0 := one_facts ((HO.out.sx.call hSw).has 2 _ _ rfl).1
          go_simp
          (try with_reducible rfl)
        (try simp only [Act.put, List.getElem_toArray, List.getElem_cons_zero, List.getElem_cons_succ, List.setIfInBounds_toArray, List.set_cons_zero, List.set_cons_succ])
        refine wpAnyH_take (i := 11) rfl (by decide +kernel) (by decide +kernel) (by decide +kernel) (fun _ _ _ h => h) (Or.inr ⟨by rfl, rfl⟩) hcur ?_
        (try simp only [Act.put, List.getElem_toArray, List.getElem_cons_zero, List.getElem_cons_succ, List.setIfInBounds_toArray, List.set_cons_zero, List.set_cons_succ])
        refine wpAnyH_take (i := 12) rfl (by decide +kernel) (by decide +kernel) (by decide +kernel) (fun _ _ _ h => h) (Or.inr ⟨by rfl, rfl⟩) hcur ?_
        (try simp only [Act.put, List.getElem_toArray, List.getElem_cons_zero, List.getElem_cons_succ, List.setIfInBounds_toArray, List.set_cons_zero, List.set_cons_succ])
        refine wpAnyH_take (i := 13) rfl (by decide +kernel) (by decide +kernel) (by decide +kernel) (fun _ _ _ h => h) (Or.inr ⟨by rfl, rfl⟩) hcur ?_
        (try simp only [Act.put, List.getElem_toArray, List.getElem_cons_zero, List.getElem_cons_succ, List.setIfInBounds_toArray, List.set_cons_zero, List.set_cons_succ])
        refine wpAnyH_take (i := 14) (v := ?_) rfl (by decide +kernel) (by decide +kernel) (by decide +kernel) (fun _ _ _ h => h) (Or.inl ⟨by rfl, ?hy⟩) hcur ?_
        case hy =>
          intro w1 hSw
          replace hSw : Below W.heap.size W w1 := hSw
          obtain ⟨x0, x1, x2, x3, x4, x5, x6, x7, -, -, -, -, -, -, -, -⟩ := nd_facts ((HO.out.sx.call hSw).has 0 _ _ rfl).1
          have y0 := one_facts ((HO.out.sx.call hSw).has 2 _ _ rfl).1
          go_simp
          (try with_reducible rfl)
        (try simp only [Act.put, List.getElem_toArray, List.getElem_cons_zero, List.getElem_cons_succ, List.setIfInBounds_toArray, List.set_cons_zero, List.set_cons_succ])
        refine wpAnyH_take (i := 15) (v := ?_) rfl (by decide +kernel) (by decide +kernel) (by decide +kernel) (fun _ _ _ h => h) (Or.inl ⟨by rfl, ?hy⟩) hcur ?_
        case hy =>
          intro w1 hSw
          replace hSw : Below W.heap.size W w1 := hSw
          obtain ⟨x0, x1, x2, x3, x4, x5, x6, x7, -, -, -, -, -, -, -, -⟩ := nd_facts ((HO.out.sx.call hSw).has 0 _ _ rfl).1
          have y0 := one_facts ((HO.out.sx.call hSw).has 2 _ _ rfl).1
          go_simp
          (try with_reducible rfl)
        (try simp only [Act.put, List.getElem_toArray, List.getElem_cons_zero, List.getElem_cons_succ, List.setIfInBounds_toArray, List.set_cons_zero, List.set_cons_succ])
        refine wpAnyH_take (i := 16) rfl (by decide +kernel) (by decide +kernel) (by decide +kernel) (fun _ _ _ h => h) (Or.inr ⟨by rfl, rfl⟩) hcur ?_
        (try simp only [Act.put, List.getElem_toArray, List.getElem_cons_zero, List.getElem_cons_succ, List.setIfInBounds_toArray, List.set_cons_zero, List.set_cons_succ])
        refine wpAnyH_take (i := 17) rfl (by decide +kernel) (by decide +kernel) (by decide +kernel) (fun _ _ _ h => h) (Or.inr ⟨by rfl, rfl⟩) hcur ?_
        (try simp only [Act.put, List.getElem_toArray, List.getElem_cons_zero, List.getElem_cons_succ, List.setIfInBounds_toArray, List.set_cons_zero, List.set_cons_succ])
        refine wpAnyH_take (i := 18) rfl (by decide +kernel) (by decide +kernel) (by decide +kernel) (fun _ _ _ h => h) (Or.inr ⟨by rfl, rfl⟩) hcur ?_
        (try simp only [Act.put, List.getElem_toArray, List.getElem_cons_zero, List.getElem_cons_succ, List.setIfInBounds_toArray, List.set_cons_zero, List.set_cons_succ])
        refine wpAnyH_take (i := 19) rfl (by decide +kernel) (by decide +kernel) (by decide +kernel) (fun _ _ _ h => h) (Or.inr ⟨by rfl, rfl⟩) hcur ?_
        (try simp only [Act.put, List.getElem_toArray, List.getElem_cons_zero, List.getElem_cons_succ, List.setIfInBounds_toArray, List.set_cons_zero, List.set_cons_succ])
        refine wpAnyH_take (i := 20) rfl (by decide +kernel) (by decide +kernel) (by decide +kernel) (fun _ _ _ h => h) (Or.inr ⟨by rfl, rfl⟩) hcur ?_
        (try simp only [Act.put, List.getElem_toArray, List.getElem_cons_zero, List.getElem_cons_succ, List.setIfInBounds_toArray, List.set_cons_zero, List.set_cons_succ])
        refine wpAnyH_take (i := 21) (v := ?_) rfl (by decide +kernel) (by decide +kernel) (by decide +kernel) (fun _ _ _ h => h) (Or.inl ⟨by rfl, ?hy⟩) hcur ?_
        case hy =>
          intro w1 hSw
          replace hSw : Below W.heap.size W w1 := hSw
          obtain ⟨x0, x1, x2, x3, x4, x5, x6, x7, -, -, -, -, -, -, -, -⟩ := nd_facts ((HO.out.sx.call hSw).has 0 _ _ rfl).1
          have y0 := one_facts ((HO.out.sx.call hSw).has 2 _ _ rfl).1
          go_simp
          (try with_reducible rfl)
        (try simp only [Act.put, List.getElem_toArray, List.getElem_cons_zero, List.getElem_cons_succ, List.setIfInBounds_toArray, List.set_cons_zero, List.set_cons_succ])
        refine wpAnyH_take (i := 22) (v := ?_) rfl (by decide +kernel) (by decide +kernel) (by decide +kernel) (fun _ _ _ h => h) (Or.inl ⟨by rfl, ?hy⟩) hcur ?_
        case hy =>
          intro w1 hSw
          replace hSw : Below W.heap.size W w1 := hSw
          obtain ⟨x0, x1, x2, x3, x4, x5, x6, x7, -, -, -, -, -, -, -, -⟩ := nd_facts ((HO.out.sx.call hSw).has 0 _ _ rfl).1
          have y0 := one_facts ((HO.out.sx.call hSw).has 2 _ _ rfl).1
          go_simp
          (try with_reducible rfl)
        (try simp only [Act.put, List.getElem_toArray, List.getElem_cons_zero, List.getElem_cons_succ, List.setIfInBounds_toArray, List.set_cons_zero, List.set_cons_succ])
        refine wpAnyH_take (i := 23) (v := ?_) rfl (by decide +kernel) (by decide +kernel) (by decide +kernel) (fun _ _ _ h => h) (Or.inl ⟨by rfl, ?hy⟩) hcur ?_
        case hy =>
          intro w1 hSw
          replace hSw : Below W.heap.size W w1 := hSw
          obtain ⟨x0, x1, x2, x3, x4, x5, x6, x7, -, -, -, -, -, -, -, -⟩ := nd_facts ((HO.out.sx.call hSw).has 0 _ _ rfl).1
          have y0 := one_facts ((HO.out.sx.call hSw).has 2 _ _ rfl).1
          go_simp
          (try with_reducible rfl)
        (try simp only [Act.put, List.getElem_toArray, List.getElem_cons_zero, List.getElem_cons_succ, List.setIfInBounds_toArray, List.set_cons_zero, List.set_cons_succ])
        refine wpAnyH_done (by decide +kernel) ?_ _
        have HB2 := Lib.hid (HO.out.call hcur)
        clear hcur
        go_wp2_with fail
        exact bodyPost_ret (v := .tuple #[.slice A1 m m, .bool false]) (by simp [results, Try.results39, go_sem, *]) rfl ⟨A1, by rw [HLE.out, HMO.out, HML.out], by rw [HLE.out, HML.out]; exact prs_of_own' (HB2.out.own 1 _ rfl) HML.out, HB2.out.below⟩

end Go.Proofs.Ytcoiadncennhpaa
