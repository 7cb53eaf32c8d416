/-
  The time of a curve at a current: the walks.
-/
import Derived.Test.YtdkkdohbmpjfdaaTm
import Derived.Deep.RegionHeld
import Derived.IntWalk
namespace Go.Proofs.Ytdkkdohbmpjfdaa
open Go.RowKit Go.Fl Go.Lb

set_option maxHeartbeats 2000000 in
theorem l07Time_any (p o : Nat) (A B : Option Addr) (c d : Nat) (xs ts : List Nat) (cur : Nat) (w : World) (h0 : w.cell? ⟨p, o, none⟩ = some (.slice A xs.length c)) (h1 : w.cell? ⟨p, o + 1, none⟩ = some (.slice B ts.length d)) (HX : RdF w A xs) (HT : RdF w B ts)
    (hl : 0 < xs.length) (hle : xs.length ≤ ts.length) :
    Calls Try.prog 63 #[.pointer (some ⟨p, o, none⟩), .float .f32 cur] w fun e w' => TimeOk (timeR xs ts cur) e ∧ ∃ n, w' = w.drewN n := by
  have hm := HX.1
  have hm2 := HT.1
  obtain ⟨a, rfl, hca0⟩ := HX.at_ hl
  rw [Addr.add_zero'] at hca0
  obtain ⟨b, rfl, _⟩ := HT.at_ (show 0 < ts.length by omega)
  have hli : (0 : Int) < xs.length := by omega
  cases hg : geB cur (ge xs 0) with
  | false =>
    have hg' : (cf .f32 cur (ge xs 0) == some .gt || cf .f32 cur (ge xs 0) == some .eq) = false := hg
    have HN := Lib.hid (timeOk_low (ts := ts) hg)
    clear hg
    go_enter Try.func63, Try.ntmps63
    go_wp2
    exact bodyPost_ret (v := .tuple #[.float .f32 0, .bool false]) (by simp only [results, Try.results63]; go_simp) rfl ⟨HN.out, 0, rfl⟩
  | true =>
    have hg' : (cf .f32 cur (ge xs 0) == some .gt || cf .f32 cur (ge xs 0) == some .eq) = true := hg
    have HG := Lib.hid hg
    clear hg
    go_enter Try.func63, Try.ntmps63
    go_wp2_with fail
    go_loopw [7] (fun i wr => ∃ k : Nat, 1 ≤ k ∧ k ≤ xs.length ∧ i = .int .i64 k ∧ wr = w ∧ Hid (∀ j, 1 ≤ j → j < k → ltB cur (ge xs j) = false)) (fun i _ => xs.length - (intOf i).toNat)
    case atStart => exact ⟨1, Nat.le_refl _, hl, rfl, rfl, fun j h h' => absurd h' (by omega)⟩
    case round =>
      obtain ⟨k, hk1, hk, rfl, rfl, hall⟩ := hrel
      by_cases hlt : k < xs.length
      · have hki : (k : Int) < xs.length := by omega
        have hki2 : (k : Int) < ts.length := by omega
        have hpi : (0 : Int) < k := by omega
        have hp : 0 < k := hk1
        obtain ⟨a1, ea, hca⟩ := HX.at_ hlt
        obtain ⟨b1, eb, hcb⟩ := HT.at_ (show k < ts.length by omega)
        obtain ⟨a2, ea2, hca'⟩ := HX.at_ (show k - 1 < xs.length by omega)
        obtain ⟨b2, eb2, hcb'⟩ := HT.at_ (show k - 1 < ts.length by omega)
        injection ea with ea
        injection eb with eb
        injection ea2 with ea2
        injection eb2 with eb2
        subst ea
        subst eb
        subst ea2
        subst eb2
        cases hc : ltB cur (ge xs k) with
        | false =>
          have hc' : (cf .f32 cur (ge xs k) == some .lt) = false := hc
          have HC := Lib.hid hc
          clear hc
          go_wp2_with fail
          go_roundw
          case rel => exact ⟨k + 1, by omega, by omega, by go_num, by trivial, all1_step hall.out HC.out⟩
          case measure => simp [intOf]; omega
        | true =>
          have hc' : (cf .f32 cur (ge xs k) == some .lt) = true := hc
          have HC := Lib.hid hc
          clear hc
          go_wp2_with fail
          have hwr : IntKind.i64.wrap ((k : Int) - 1) = ((k - 1 : Nat) : Int) := (IntWalk.i64_in _ (by omega)).trans (by omega)
          have hki3 : ((k - 1 : Nat) : Int) < ts.length := by omega
          have hki4 : ¬ ((k - 1 : Nat) : Int) < 0 := by omega
          go_region_held (fun w' => w'.cell? ⟨p, o + 1, none⟩ = some (.slice (some b) ts.length d) ∧ w'.cell? (b.add k) = some (.float .f32 (ge ts k)) ∧ w'.cell? (b.add (k - 1)) = some (.float .f32 (ge ts (k - 1)))) (first | exact ⟨h1, hcb, hcb'⟩) (first | fail)
          clear hwr
          go_wp2_with fail
          generalize hr : fv _ .add .f32 _ _ = r
          exact bodyPost_ret (v := .tuple #[.float .f32 r, .bool true]) (by simp only [results, Try.results63]; go_simp) rfl ⟨timeOk_hit HG.out hk1 hlt hall.out HC.out (by rw [← hr]; exact interp_fv _ _ _ _ _ _ _ _ _ _ _), _, rfl⟩
      · obtain rfl : k = xs.length := by omega
        have HN := Lib.hid (timeOk_end (ts := ts) HG.out hall.out)
        obtain ⟨b2, eb2, hcb'⟩ := HT.at_ (show xs.length - 1 < ts.length by omega)
        injection eb2 with eb2
        subst eb2
        go_wp2_with fail
        exact bodyPost_ret (v := .tuple #[.float .f32 (ge ts (xs.length - 1)), .bool true]) (by simp only [results, Try.results63]; go_simp) rfl ⟨HN.out, 0, rfl⟩
set_option maxHeartbeats 2000000 in
theorem timeI_any (p o : Nat) (A B : Option Addr) (c d : Nat) (xs ts : List Nat) (cur : Nat) (w : World) (h0 : w.cell? ⟨p, o, none⟩ = some (.slice A xs.length c)) (h1 : w.cell? ⟨p, o + 1, none⟩ = some (.slice B ts.length d)) (HX : RdF w A xs) (HT : RdF w B ts)
    (hl : 0 < xs.length) (hle : ts.length = xs.length) (hv : ∀ j, j < xs.length → okAt xs ts j = true) :
    Calls Try.prog 64 #[.pointer (some ⟨p, o, none⟩), .float .f32 cur] w fun e w' => TimeOk (timeR xs ts cur) e ∧ ∃ n, w' = w.drewN n := by
  have hm := HX.1
  have hm2 := HT.1
  have HV := Lib.hid hv
  clear hv
  obtain ⟨a, rfl, hca0⟩ := HX.at_ hl
  rw [Addr.add_zero'] at hca0
  obtain ⟨b, rfl, _⟩ := HT.at_ (show 0 < ts.length by omega)
  obtain ⟨a3, ea3, hcaT⟩ := HX.at_ (show xs.length - 1 < xs.length by omega)
  obtain ⟨b3, eb3, hcbT⟩ := HT.at_ (show xs.length - 1 < ts.length by omega)
  injection ea3 with ea3
  injection eb3 with eb3
  subst ea3
  subst eb3
  have hli : (0 : Int) < xs.length := by omega
  have hlj : (0 : Int) < ts.length := by omega
  cases hg : geB cur (ge xs 0) with
  | false =>
    have hg' : (cf .f32 cur (ge xs 0) == some .gt || cf .f32 cur (ge xs 0) == some .eq) = false := hg
    have HN := Lib.hid (timeOk_low (ts := ts) hg)
    clear hg
    go_enter Try.func64, Try.ntmps64
    go_wp2
    exact bodyPost_ret (v := .tuple #[.float .f32 0, .bool false]) (by simp only [results, Try.results64]; go_simp) rfl ⟨HN.out, 0, rfl⟩
  | true =>
    have hg' : (cf .f32 cur (ge xs 0) == some .gt || cf .f32 cur (ge xs 0) == some .eq) = true := hg
    have HG := Lib.hid hg
    clear hg
    cases ht : geB cur (ge xs (xs.length - 1)) with
    | true =>
      have ht' : (cf .f32 cur (ge xs (xs.length - 1)) == some .gt || cf .f32 cur (ge xs (xs.length - 1)) == some .eq) = true := ht
      have HN := Lib.hid (timeOk_end (ts := ts) HG.out fun j _ hj => top_none HV.out hl ht j hj)
      clear ht
      go_enter Try.func64, Try.ntmps64
      go_wp2
      exact bodyPost_ret (v := .tuple #[.float .f32 (ge ts (xs.length - 1)), .bool true]) (by simp only [results, Try.results64]; go_simp) rfl ⟨HN.out, 0, rfl⟩
    | false =>
      have ht' : (cf .f32 cur (ge xs (xs.length - 1)) == some .gt || cf .f32 cur (ge xs (xs.length - 1)) == some .eq) = false := ht
      have HT1 := Lib.hid (top_lt HV.out hl HG.out ht)
      have HC0 := Lib.hid (geB_num HG.out)
      clear ht
      go_enter Try.func64, Try.ntmps64
      go_wp2_with fail
      go_loopw [7] (fun i wr => ∃ k m : Nat, k = m + 1 ∧ k < xs.length ∧ i = .int .i64 m ∧ wr = w ∧ Hid (∀ j, 1 ≤ j → j < k → ltB cur (ge xs j) = false)) (fun i _ => xs.length - (intOf i).toNat)
      case atStart => exact ⟨1, 0, rfl, (by
        rcases Nat.lt_or_ge 1 xs.length with h | h
        · exact h
        · have h1 := HT1.out
          rw [show xs.length - 1 = 0 by omega, ge_not_lt HG.out] at h1
          cases h1), rfl, rfl, fun j h h' => absurd h' (by omega)⟩
      case round =>
        obtain ⟨k, m, hkm, hlt, rfl, rfl, hall⟩ := hrel
        have hki : (k : Int) < xs.length := by omega
        have hki2 : (k : Int) < ts.length := by omega
        have hmi : (m : Int) < xs.length := by omega
        have hmi2 : (m : Int) < ts.length := by omega
        have hwm : (m : Int) + 1 = k := by omega
        have hpi : (0 : Int) < k := by omega
        obtain ⟨a1, ea, hca⟩ := HX.at_ hlt
        obtain ⟨b1, eb, hcb⟩ := HT.at_ (show k < ts.length by omega)
        obtain ⟨a2, ea2, hca'⟩ := HX.at_ (show m < xs.length by omega)
        obtain ⟨b2, eb2, hcb'⟩ := HT.at_ (show m < ts.length by omega)
        injection ea with ea
        injection eb with eb
        injection ea2 with ea2
        injection eb2 with eb2
        subst ea
        subst eb
        subst ea2
        subst eb2
        have hk1 : 1 ≤ k := by omega
        have hmk : k - 1 = m := by omega
        have HM := Lib.hid hmk
        clear hkm hmk
        cases hc : leB (ge xs k) cur with
        | true =>
          have hc' : (cf .f32 (ge xs k) cur == some .lt || cf .f32 (ge xs k) cur == some .eq) = true := hc
          have HC := Lib.hid (leB_not_lt hc)
          have hne : k + 1 < xs.length := by
            rcases Nat.lt_or_ge (k + 1) xs.length with h | h
            · exact h
            · have h1 := HT1.out
              rw [show xs.length - 1 = k by omega, HC.out] at h1
              cases h1
          clear hc
          go_wp2_with fail
          go_roundw
          case rel => exact ⟨k + 1, k, rfl, hne, by go_num, by trivial, all1_step hall.out HC.out⟩
          case measure => simp [intOf]; omega
        | false =>
          have hc' : (cf .f32 (ge xs k) cur == some .lt || cf .f32 (ge xs k) cur == some .eq) = false := hc
          have HC := Lib.hid (not_leB_lt HC0.out (okAt_num (HV.out k hlt)).1 hc)
          have HH := Lib.hid (fun r => timeOk_hit (ts := ts) (r := r) HG.out hk1 hlt hall.out HC.out)
          rw [HM.out] at HH
          clear hc
          go_wp2_with fail
          have hwr : IntKind.i64.wrap ((m : Int) + 1) = (k : Int) := (IntWalk.i64_in _ (by omega)).trans (by omega)
          go_quiet (fail)
          clear hwr
          go_wp2_with fail
          generalize hr : fv _ .add .f32 _ _ = r
          exact bodyPost_ret (v := .tuple #[.float .f32 r, .bool true]) (by simp only [results, Try.results64]; go_simp) rfl ⟨HH.out r (by rw [← hr]; exact interp_fv _ _ _ _ _ _ _ _ _ _ _), _, rfl⟩
end Go.Proofs.Ytdkkdohbmpjfdaa
