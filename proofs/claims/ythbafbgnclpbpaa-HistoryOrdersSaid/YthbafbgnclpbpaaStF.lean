/- Contracts of the stable sort of ints: symMerge, whole. -/
import Derived.Test.YthbafbgnclpbpaaStD
import Derived.Test.YthbafbgnclpbpaaStDD
namespace Go.Proofs.Ythbafbgnclpbpaa
open Go.RowKit

theorem symmerge_int (W0 : World) (g n cap N bp : Nat) (E : Nat → Int) (key : Nat → Int) (hc : CmpI W0 g N bp E key) (hn : n ≤ 1000) (L : Nat) : SymIH_int W0 g n cap N bp E key L := by
  induction L with
  | zero => intro q a m b w h; exact absurd h (Nat.not_lt_zero _)
  | succ L ih =>
    intro q a m b w hL h ham hmb hb hN h1 h2 hl
    by_cases e1 : m = a + 1
    · exact symmerge1_int W0 g n cap N bp E key q a m b w hc h e1 hmb hb hn hN h2 hl
    · by_cases e2 : b = m + 1
      · exact symmerge2_int W0 g n cap N bp E key q a m b w hc h ham e1 e2 hb hn hN h1 hl
      · obtain ⟨mid, hmid⟩ : ∃ x, x = (a + b) / 2 := ⟨_, rfl⟩
        obtain ⟨s0, hs0⟩ : ∃ x, x = if mid < m then mid + m - b else a := ⟨_, rfl⟩
        obtain ⟨r0, hr0⟩ : ∃ x, x = if mid < m then mid else m := ⟨_, rfl⟩
        obtain ⟨s, hsa, hsb, hlo, hhi⟩ := sea_ex ham hmb h1 h2 hmid hs0 hr0
        have hih : SymIH_int W0 g n cap N bp E key (b - a) := fun q' a' m' b' w' hL' => ih q' a' m' b' w' (by omega)
        by_cases c1 : s < m ∧ m < mid + m - s
        · by_cases c2 : a < s ∧ s < mid
          · exact symmerge3A_int W0 g n cap N bp E key q a m b mid s0 r0 s w hc h ham e1 hmb e2 hb hn hN h1 h2 hl hih hmid hs0 hr0 hsa hsb hlo hhi c1 c2
          · exact symmerge3B_int W0 g n cap N bp E key q a m b mid s0 r0 s w hc h ham e1 hmb e2 hb hn hN h1 h2 hl hih hmid hs0 hr0 hsa hsb hlo hhi c1 c2
        · by_cases c2 : a < s ∧ s < mid
          · exact symmerge3C_int W0 g n cap N bp E key q a m b mid s0 r0 s w hc h ham e1 hmb e2 hb hn hN h1 h2 hl hih hmid hs0 hr0 hsa hsb hlo hhi c1 c2
          · exact symmerge3D_int W0 g n cap N bp E key q a m b mid s0 r0 s w hc h ham e1 hmb e2 hb hn hN h1 h2 hl hih hmid hs0 hr0 hsa hsb hlo hhi c1 c2

end Go.Proofs.Ythbafbgnclpbpaa

namespace Go.Proofs.Ythbafbgnclpbpaa
open Go.RowKit

def StabTo_int (W0 : World) (g n cap : Nat) (E : Nat → Int) (key : Nat → Int) (e : Ending) (w' : World) : Prop :=
  e = .returned (.tuple #[]) ∧ ∃ p, StR W0 w' g 3 1 n cap (enI E) p ∧ PermOn 0 n (fun k => k) p ∧ Srt key p 0 n

set_option maxRecDepth 100000 in
set_option maxHeartbeats 8000000 in
theorem stable_int (W0 : World) (g n cap bp : Nat) (E : Nat → Int) (key : Nat → Int) (w : World) (hc : CmpI W0 g n bp E key) (h : StR W0 w g 3 1 n cap (enI E) (fun k => k)) (hn : n ≤ 1000) :
    Calls Try.prog 110 #[.slice (some ⟨g, 0, none⟩) n cap, .int .i64 n, ordFn bp] w (StabTo_int W0 g n cap E key) := by
  have HC := Lib.hid hc
  have HS0 := Lib.hid h
  have HSY := Lib.hid (symmerge_int W0 g n cap n bp E key hc hn)
  clear hc h
  go_enter Try.func110, Try.ntmps110
  go_wp2_with fail
  go_loopw [7, 8] (fun va vb wr => ∃ (a b : Nat) (p : Nat → Nat), va = .int .i64 a ∧ vb = .int .i64 b ∧ Hid (b = a + 20 ∧ 20 ∣ a ∧ a ≤ n) ∧ Hid (Beg key p 20 a n ∧ PermOn 0 n (fun k => k) p) ∧ Hid (StR W0 wr g 3 1 n cap (enI E) p)) (fun va vb _ => n - (intOf va).toNat)
  case atStart => exact ⟨0, 20, fun k => k, rfl, rfl, ⟨rfl, Nat.dvd_zero _, Nat.zero_le _⟩, ⟨Beg.start key 20 n, PermOn.refl _ _ _⟩, HS0.out⟩
  case round =>
    obtain ⟨a, b, p, rfl, rfl, HB, HG, HS⟩ := hrel
    clear HS0
    have hb1 := HB.out.2.2
    by_cases hlt : b ≤ n
    · have HX := Lib.hid (fun W hW => insertion_int W0 g n cap n bp E key p a b W HC.out hW (by have := HB.out.1; omega) hlt hn (fun k hk => permOn_lt HG.out.2 (Nat.le_refl _) (fun k hk => hk) k hk) (HG.out.1.inc b))
      go_wp2_with fail
      refine (HX.out _ HS.out).mono ?_
      rintro e w2 ⟨rfl, q, h2, h3, h4⟩
      have HN2 := Lib.hid (And.intro h2 (And.intro (show Beg key q 20 b n by have e1 := HB.out; rw [e1.1]; exact HG.out.1.step e1.2.1 (by omega) (e1.1 ▸ h3) (e1.1 ▸ h4)) (HG.out.2.trans (h3.mono (Nat.zero_le _) hlt))))
      clear h2 h3 h4
      go_wp2_with fail
      go_roundw
      case rel => exact ⟨b, b + 20, q, rfl, by go_num, ⟨rfl, by rw [HB.out.1]; exact Nat.dvd_add HB.out.2.1 (Nat.dvd_refl _), hlt⟩, HN2.out.2, HN2.out.1⟩
      case measure => simp [intOf]; have := HB.out.1; omega
    · have HX := Lib.hid (fun W hW => insertion_int W0 g n cap n bp E key p a n W HC.out hW hb1 (Nat.le_refl _) hn (fun k hk => permOn_lt HG.out.2 (Nat.le_refl _) (fun k hk => hk) k hk) (HG.out.1.inc n))
      go_wp2_with fail
      refine (HX.out _ HS.out).mono ?_
      rintro e w2 ⟨rfl, q, h2, h3, h4⟩
      have HN2 := Lib.hid (And.intro h2 (And.intro (show Lev key q 20 0 n from (HG.out.1.step HB.out.2.1 (by have := HB.out.1; omega) h3 h4).lev (by have := HB.out.1; omega)) (HG.out.2.trans (h3.mono (Nat.zero_le _) (Nat.le_refl _)))))
      clear h2 h3 h4 HG HB HS
      go_wp2_with fail
      go_loopw [6, 7, 8, 9] (fun vc _ _ _ wr => ∃ (c : Nat) (p : Nat → Nat), vc = .int .i64 c ∧ Hid (0 < c ∧ c ≤ 2000) ∧ Hid (Lev key p c 0 n ∧ PermOn 0 n (fun k => k) p) ∧ Hid (StR W0 wr g 3 1 n cap (enI E) p)) (fun vc _ _ _ _ => n - (intOf vc).toNat)
      case atStart => exact ⟨20, q, rfl, (show 0 < 20 ∧ 20 ≤ 2000 by decide), HN2.out.2, HN2.out.1⟩
      case round =>
        obtain ⟨c, p2, rfl, HB, HG, HS⟩ := hrel
        clear HN2
        have hc1 := HB.out.1
        have hc2 := HB.out.2
        by_cases hlt2 : c < n
        · obtain ⟨c2, hc2e⟩ : ∃ x, x = 2 * c := ⟨_, rfl⟩
          have hw2 : 2 * (c : Int) = (c2 : Int) := by omega
          have HC2 := Lib.hid hc2e
          clear hc2e
          go_wp2_with fail
          go_loopw [7, 8] (fun va vb wr => ∃ (a b : Nat) (p : Nat → Nat), va = .int .i64 a ∧ vb = .int .i64 b ∧ Hid (b = a + c2 ∧ 2 * c ∣ a ∧ a ≤ n) ∧ Hid (Lev key p c a n ∧ PermOn 0 n (fun k => k) p) ∧ Hid (StR W0 wr g 3 1 n cap (enI E) p)) (fun va vb _ => n - (intOf va).toNat)
          case atStart => exact ⟨0, c2, p2, rfl, rfl, ⟨by omega, Nat.dvd_zero _, Nat.zero_le _⟩, HG.out, HS.out⟩
          case round =>
            obtain ⟨a, b, p3, rfl, rfl, HB3, HG3, HS3⟩ := hrel
            clear HS HG
            have ha3 := HB3.out.2.2
            obtain ⟨m, hm⟩ : ∃ m, m = a + c := ⟨_, rfl⟩
            have hmw : (a : Int) + (c : Int) = (m : Int) := by omega
            have HM := Lib.hid hm
            have hbb : b = a + 2 * c := by rw [HB3.out.1, HC2.out]
            have hbd : b ≤ 3000 := by omega
            have HBB := Lib.hid hbb
            have HPN := Lib.hid (permOn_lt HG3.out.2 (Nat.le_refl _) (fun k hk => hk))
            by_cases hlt3 : b ≤ n
            · have hblk1 := HG3.out.1.2 a (Nat.dvd_trans (Nat.dvd_mul_left c 2) HB3.out.2.1) (Nat.le_refl _) (by omega)
              have hblk2 := HG3.out.1.2 m (by rw [hm]; exact Nat.dvd_add (Nat.dvd_trans (Nat.dvd_mul_left c 2) HB3.out.2.1) (Nat.dvd_refl c)) (by omega) (by omega)
              rw [show min (a + c) n = m from by omega] at hblk1
              rw [show min (m + c) n = b from by omega] at hblk2
              have HX := Lib.hid (fun W hW => HSY.out (b - a + 1) p3 a m b W (by omega) hW (by omega) (by omega) hlt3 HPN.out hblk1.1 hblk2.1 (blk_lft hblk1 hblk2))
              clear hblk1 hblk2 hm hbb
              go_wp2_with fail
              refine (HX.out _ HS3.out).mono ?_
              rintro e w3 ⟨rfl, q3, h2, h3, h4⟩
              have HN3 := Lib.hid (And.intro h2 (And.intro (show Lev key q3 c b n by have e1 := HBB.out; rw [e1]; exact HG3.out.1.step hc1 HB3.out.2.1 (by omega) (by omega) (e1 ▸ h3) (e1 ▸ h4)) (HG3.out.2.trans (h3.mono (Nat.zero_le _) hlt3))))
              clear h2 h3 h4
              go_wp2_with fail
              go_roundw
              case rel => exact ⟨b, b + c2, q3, rfl, by go_num, ⟨rfl, by rw [HBB.out]; exact Nat.dvd_add HB3.out.2.1 (Nat.dvd_refl _), hlt3⟩, HN3.out.2, HN3.out.1⟩
              case measure => simp [intOf]; have := HBB.out; omega
            · by_cases hlt4 : m < n
              · have hblk1 := HG3.out.1.2 a (Nat.dvd_trans (Nat.dvd_mul_left c 2) HB3.out.2.1) (Nat.le_refl _) (by omega)
                have hblk2 := HG3.out.1.2 m (by rw [hm]; exact Nat.dvd_add (Nat.dvd_trans (Nat.dvd_mul_left c 2) HB3.out.2.1) (Nat.dvd_refl c)) (by omega) (by omega)
                rw [show min (a + c) n = m from by omega] at hblk1
                rw [show min (m + c) n = n from by omega] at hblk2
                have HX := Lib.hid (fun W hW => HSY.out (n - a + 1) p3 a m n W (by omega) hW (by omega) hlt4 (Nat.le_refl _) HPN.out hblk1.1 hblk2.1 (blk_lft hblk1 hblk2))
                clear hblk1 hblk2 hm hbb
                go_wp2_with fail
                refine (HX.out _ HS3.out).mono ?_
                rintro e w3 ⟨rfl, q3, h2, h3, h4⟩
                have HN3 := Lib.hid (And.intro h2 (And.intro (show Lev key q3 (2 * c) 0 n from (HG3.out.1.step hc1 HB3.out.2.1 (by have := HM.out; omega) (by have := HBB.out; omega) h3 h4).up (Nat.dvd_add HB3.out.2.1 (Nat.dvd_refl _)) (by have := HBB.out; omega)) (HG3.out.2.trans (h3.mono (Nat.zero_le _) (Nat.le_refl _)))))
                clear h2 h3 h4
                go_wp2_with fail
                go_roundw
                case rel => exact ⟨2 * c, q3, by go_num, ⟨by omega, by omega⟩, HN3.out.2, HN3.out.1⟩
                case measure => simp [intOf]; omega
              · have HN3 := Lib.hid (And.intro HS3.out (And.intro (show Lev key p3 (2 * c) 0 n from HG3.out.1.up HB3.out.2.1 (by omega)) HG3.out.2))
                clear hm hbb
                go_wp2_with fail
                go_roundw
                case rel => exact ⟨2 * c, p3, by go_num, ⟨by omega, by omega⟩, HN3.out.2, HN3.out.1⟩
                case measure => simp [intOf]; omega
        · have HF := Lib.hid (HG.out.1.all (by omega))
          go_wp2_with fail
          go_end0
          exact ⟨rfl, p2, HS.out, HG.out.2, HF.out⟩

theorem sortstable_int (W0 : World) (g n cap bp : Nat) (E : Nat → Int) (key : Nat → Int) (w : World) (hc : CmpI W0 g n bp E key) (h : StR W0 w g 3 1 n cap (enI E) (fun k => k)) (hn : n ≤ 1000) :
    Calls Try.prog 100 #[.slice (some ⟨g, 0, none⟩) n cap, ordFn bp] w (StabTo_int W0 g n cap E key) := by
  have HX := Lib.hid (stable_int W0 g n cap bp E key w hc h hn)
  clear hc h
  go_enter Try.func100, Try.ntmps100
  go_wp2_with fail
  refine HX.out.mono ?_
  rintro e w2 ⟨rfl, q, h2, h3, h4⟩
  have HN2 := Lib.hid (And.intro h2 (And.intro h3 h4))
  clear h2 h3 h4
  go_wp2_with fail
  go_end0
  exact ⟨rfl, q, HN2.out⟩

/-- Of none. -/
theorem insertion0_int (V fn : Value) (w : World) :
    Calls Try.prog 112 #[V, .int .i64 0, .int .i64 0, fn] w (fun e w' => e = .returned (.tuple #[]) ∧ w' = w) := by
  go_enter Try.func112, Try.ntmps112
  go_wp2_with fail
  go_loopw [8, 9] (fun vi _ wr => vi = .int .i64 1 ∧ w = wr) (fun _ _ _ => 0)
  case atStart => exact ⟨rfl, rfl⟩
  case round =>
    obtain ⟨rfl, rfl⟩ := hrel
    go_wp2_with fail
    go_end0
    exact ⟨rfl, rfl⟩
theorem stable0_int (V fn : Value) (w : World) :
    Calls Try.prog 110 #[V, .int .i64 0, fn] w (fun e w' => e = .returned (.tuple #[]) ∧ w' = w) := by
  go_enter Try.func110, Try.ntmps110
  go_wp2_with fail
  go_loopw [7, 8] (fun va vb wr => va = .int .i64 0 ∧ vb = .int .i64 20 ∧ w = wr) (fun _ _ _ => 0)
  case atStart => exact ⟨rfl, rfl, rfl⟩
  case round =>
    obtain ⟨rfl, rfl, rfl⟩ := hrel
    go_wp2_with fail
    refine (insertion0_int _ _ _).mono ?_
    rintro e w2 ⟨rfl, rfl⟩
    go_wp2_with fail
    go_loopw [6, 7, 8, 9] (fun vc _ _ _ wr => vc = .int .i64 20 ∧ w2 = wr) (fun _ _ _ _ _ => 0)
    case atStart => exact ⟨rfl, rfl⟩
    case round =>
      obtain ⟨rfl, rfl⟩ := hrel
      go_wp2_with fail
      go_end0
      exact ⟨rfl, rfl⟩
theorem sortstable0_int (fn : Value) (w : World) :
    Calls Try.prog 100 #[.slice none 0 0, fn] w (fun e w' => e = .returned (.tuple #[]) ∧ w' = w) := by
  go_enter Try.func100, Try.ntmps100
  go_wp2_with fail
  refine (stable0_int _ _ _).mono ?_
  rintro e w2 ⟨rfl, rfl⟩
  go_wp2_with fail
  go_end0
  exact ⟨rfl, rfl⟩

end Go.Proofs.Ythbafbgnclpbpaa
