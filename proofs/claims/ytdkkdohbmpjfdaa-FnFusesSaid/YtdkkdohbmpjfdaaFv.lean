/-
  Runs of such fuses: a list in two parts.
-/
import Derived.Test.YtdkkdohbmpjfdaaFu
namespace Go.Proofs.Ytdkkdohbmpjfdaa
open Go.RowKit Go.Fl Go.Lb

theorem runR_append (l c t : Nat) (ys : List Nat) : ∀ (xs : List Nat) (h i : Nat), runR h l c t i (xs ++ ys) =
    if (runR h l c t i xs).2.2.2.2 then (if (runR h l c t i xs).1 = -1 then runR (runR h l c t i xs).2.1 l c t (i + xs.length) ys else runR h l c t i xs) else runR h l c t i xs := by
  intro xs
  induction xs with
  | nil => intro h i; simp [runR]
  | cons x xs ih =>
    intro h i
    rw [List.cons_append]
    cases hk : (heatR h l c x t).2.2.2.2 with
    | false => rw [runR_no hk, runR_no hk]; simp
    | true =>
      cases hb : (heatR h l c x t).2.2.2.1 with
      | true =>
        rw [runR_blown hk hb, runR_blown hk hb]
        simp
      | false =>
        rw [runR_on hk hb, runR_on hk hb, ih]
        rw [List.length_cons, show i + 1 + xs.length = i + (xs.length + 1) by omega]
/-- how a run goes that started later -/
theorem runR_from (l c t j : Nat) : ∀ (xs : List Nat) (h i : Nat), (runR h l c t (i + j) xs).2 = (runR h l c t i xs).2 ∧ ((runR h l c t i xs).2.2.2.2 = true →
    ((runR h l c t i xs).1 = -1 ∧ (runR h l c t (i + j) xs).1 = -1) ∨ ((i : Int) ≤ (runR h l c t i xs).1 ∧ (runR h l c t i xs).1 < (i : Int) + xs.length ∧ (runR h l c t (i + j) xs).1 = (runR h l c t i xs).1 + j)) := by
  intro xs
  induction xs with
  | nil => intro h i; simp [runR]
  | cons x xs ih =>
    intro h i
    cases hk : (heatR h l c x t).2.2.2.2 with
    | false => rw [runR_no hk, runR_no hk]; simp
    | true =>
      cases hb : (heatR h l c x t).2.2.2.1 with
      | true =>
        rw [runR_blown hk hb, runR_blown hk hb]
        refine ⟨rfl, fun _ => .inr ⟨Int.le_refl _, ?_, ?_⟩⟩
        · simp; omega
        · simp
      | false =>
        rw [runR_on hk hb, runR_on hk hb]
        have h1 := ih (heatR h l c x t).1 (i + 1)
        rw [show i + 1 + j = i + j + 1 by omega] at h1
        refine ⟨h1.1, fun hok => ?_⟩
        rcases h1.2 hok with h2 | ⟨h2, h3, h4⟩
        · exact .inl h2
        · refine .inr ⟨by omega, ?_, h4⟩
          simp only [List.length_cons]
          omega
/-- a current is one that the law makes -/
def curs (xs : List Nat) : Prop := ∀ x, x ∈ xs → ∃ a, a < 20 ∧ x = quarter a
theorem runR_hI {k c L : Nat} (hk : k < 100) (hc : fb .mul .f32 c half = hI k) (hcn : cn .f32 c = c) (hnc : nearB c = true) (hL : L < 1000000) (hpl : plusB (hI L) = true) :
    ∀ (xs : List Nat) (m i : Nat), curs xs → m + 361 * xs.length < 1000000 → ∃ (r : Int) (m' : Nat), runR (hI m) (hI L) c half i xs = (r, hI m', hI L, c, true) ∧ m' ≤ m + 361 * xs.length := by
  intro xs
  induction xs with
  | nil => intro m i _ _; exact ⟨-1, m, rfl, by simp⟩
  | cons x xs ih =>
    intro m i hx hm
    obtain ⟨a, ha, rfl⟩ := hx x (by simp)
    rw [List.length_cons] at hm
    have haa : a * a ≤ 19 * 19 := Nat.mul_le_mul (by omega) (by omega)
    have hR := heatR_hI (h := m) (q := quarter a) (by omega) ha hk hc hcn hnc rfl hL hpl
    cases hb : decide (L ≤ m + a * a - k) with
    | true =>
      rw [hb] at hR
      refine ⟨i, m + a * a - k, ?_, by rw [List.length_cons]; omega⟩
      rw [runR_blown (by rw [hR]) (by rw [hR]), hR]
    | false =>
      rw [hb] at hR
      obtain ⟨r, m', h1, h2⟩ := ih (m + a * a - k) (i + 1) (fun y hy => hx y (by simp [hy])) (by omega)
      refine ⟨r, m', ?_, by rw [List.length_cons]; omega⟩
      rw [runR_on (by rw [hR]) (by rw [hR]), hR]
      exact h1
theorem vfuse_hI {c L m : Nat} (hnc : nearB c = true) (hpl : plusB (hI L) = true) (hm : m < 1000000) : vfuse (hI m) (hI L) c = true := by
  unfold vfuse
  rw [near_hI (by omega), hnc, hpl]
  rfl
theorem runAll_hI {c L m : Nat} (hnc : nearB c = true) (hpl : plusB (hI L) = true) (hm : m < 1000000) (xs : List Nat) (hl : xs.length ≤ 256) : runAll (hI m) (hI L) c half xs = runR (hI m) (hI L) c half 0 xs :=
  runAll_yes (by rw [vfuse_hI hnc hpl hm, near_half, decide_eq_true hl]; rfl)
/-- what the law asks of its two runs -/
theorem fuses_plain {n l b cut : Nat} {xs : List Nat} (hn : n < 6) (hl : l < 60) (hb : b < 5) (hx : curs xs) (h8 : xs.length = 8) (hcut : cut ≤ 8) :
    ∃ (at' first : Int) (he hm : Nat), runAll (hI (32 * n)) (hI (32 * (10 + l))) (quarter b) half xs = (at', he, hI (32 * (10 + l)), quarter b, true) ∧ runAll (hI (32 * n)) (hI (32 * (10 + l))) (quarter b) half (xs.take cut) = (first, hm, hI (32 * (10 + l)), quarter b, true) ∧
      vfuse he (hI (32 * (10 + l))) (quarter b) = true ∧ vfuse hm (hI (32 * (10 + l))) (quarter b) = true ∧ -1 ≤ at' ∧ at' < 8 ∧ (0 ≤ first → at' = first ∧ he = hm) ∧
      (first < 0 → ∃ second : Int, runAll hm (hI (32 * (10 + l))) (quarter b) half (xs.drop cut) = (second, he, hI (32 * (10 + l)), quarter b, true) ∧ (0 ≤ second → at' = second + cut) ∧ (second < 0 → at' = -1)) := by
  obtain ⟨hc, hnc⟩ := cool_at hb
  have hpl := (limit_at hl).2
  have hcn := cn_quarter' b
  generalize quarter b = c at *
  have hL : 32 * (10 + l) < 1000000 := by omega
  generalize 32 * (10 + l) = L at *
  have hm0 : 32 * n < 1000000 := by omega
  have ht : curs (xs.take cut) := fun y hy => hx y (List.mem_of_mem_take hy)
  have hd : curs (xs.drop cut) := fun y hy => hx y (List.mem_of_mem_drop hy)
  have hlt : (xs.take cut).length = cut := by rw [List.length_take]; omega
  have hld : (xs.drop cut).length = 8 - cut := by rw [List.length_drop]; omega
  obtain ⟨r, me, hE, hme⟩ := runR_hI (by omega) hc hcn hnc hL hpl xs (32 * n) 0 hx (by omega)
  obtain ⟨f, mm, hM, hmm⟩ := runR_hI (by omega) hc hcn hnc hL hpl (xs.take cut) (32 * n) 0 ht (by omega)
  have happ := runR_append (hI L) c half (xs.drop cut) (xs.take cut) (hI (32 * n)) 0
  rw [List.take_append_drop, hE, hM] at happ
  dsimp only at happ
  rw [if_pos rfl] at happ
  have hfE := runR_from (hI L) c half 0 xs (hI (32 * n)) 0
  have hfM := runR_from (hI L) c half 0 (xs.take cut) (hI (32 * n)) 0
  rw [hE] at hfE
  rw [hM] at hfM
  have h1 := hfE.2 rfl
  have h2 := hfM.2 rfl
  dsimp only at h1 h2
  refine ⟨r, f, hI me, hI mm, ?_, ?_, vfuse_hI hnc hpl (by omega), vfuse_hI hnc hpl (by omega), ?_, ?_, ?_, ?_⟩
  · rw [runAll_hI hnc hpl hm0 xs (by omega)]; exact hE
  · rw [runAll_hI hnc hpl hm0 (xs.take cut) (by omega)]; exact hM
  · omega
  · omega
  · intro hf
    rw [if_neg (by omega)] at happ
    simp only [Prod.mk.injEq] at happ
    exact ⟨happ.1, happ.2.1⟩
  · intro hf
    have hf1 : f = -1 := by omega
    rw [if_pos hf1] at happ
    obtain ⟨s, ms, hS, hms⟩ := runR_hI (by omega) hc hcn hnc hL hpl (xs.drop cut) mm 0 hd (by omega)
    have hfS := runR_from (hI L) c half cut (xs.drop cut) (hI mm) 0
    rw [hlt] at happ
    rw [← happ, hS] at hfS
    dsimp only at hfS
    have e := hfS.1
    simp only [Prod.mk.injEq] at e
    have h3 := hfS.2 rfl
    refine ⟨s, ?_, ?_, ?_⟩
    · rw [runAll_hI hnc hpl (by omega) (xs.drop cut) (by omega), hS, e.1]
    · intro hs; omega
    · intro hs; omega
theorem hot_plain {n l a : Nat} (hn : n < 6) (hl : l < 60) (ha : a < 20) : ∃ hot bl, heatR (hI (32 * n)) (hI (32 * (10 + l))) 0 (quarter a) half = (hot, hI (32 * (10 + l)), 0, bl, true) ∧ geq hot (hI (32 * n)) = true ∧ geq hot (hI (32 * (10 + l))) = bl := by
  have haa : a * a ≤ 19 * 19 := Nat.mul_le_mul (by omega) (by omega)
  have h := heatR_hI (h := 32 * n) (a := a) (k := 0) (q := quarter a) (c := 0) (L := 32 * (10 + l)) (by omega) ha (by omega) (by decide +kernel) (by decide +kernel) (by decide +kernel) rfl (by omega) (limit_at hl).2
  refine ⟨_, _, h, ?_, ?_⟩
  · rw [geq_hI (by omega) (by omega)]
    exact decide_eq_true (by omega)
  · exact geq_hI (by omega) (by omega)
end Go.Proofs.Ytdkkdohbmpjfdaa
