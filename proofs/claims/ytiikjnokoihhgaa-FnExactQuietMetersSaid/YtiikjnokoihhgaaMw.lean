/-
  ValidMeter of the program and of the reference; the law FnExactValidMeter, walked.
-/
import Derived.Test.YtiikjnokoihhgaaMv
namespace Go.Proofs.Ytiikjnokoihhgaa
open Go.RowKit Go.Fl Go.Lb

def idxI (p : Int → Bool) (xs : List Int) : Int := match xs.findIdx? p with | some i => i | none => -1
theorem idxI_found {p : Int → Bool} {xs : List Int} {k : Nat} (hk : k < xs.length) (hno : ∀ j, j < k → p (gi xs j) = false) (hy : p (gi xs k) = true) : idxI p xs = k := by
  unfold idxI
  have : xs.findIdx? p = some k := by
    rw [List.findIdx?_eq_some_iff_getElem]
    refine ⟨hk, ?_, fun j hj => ?_⟩
    · rw [gi_eq hk] at hy; exact hy
    · have := hno j hj
      rw [gi_eq (Nat.lt_trans hj hk)] at this; simpa using this
  rw [this]
theorem idxI_none {p : Int → Bool} {xs : List Int} (hno : ∀ j, j < xs.length → p (gi xs j) = false) : idxI p xs = -1 := by
  unfold idxI
  have : xs.findIdx? p = none := by
    rw [List.findIdx?_eq_none_iff]
    intro x hx
    obtain ⟨j, hj, rfl⟩ := List.mem_iff_getElem.1 hx
    have := hno j hj
    rw [gi_eq hj] at this; exact this
  rw [this]
theorem idxI_ge (p : Int → Bool) (xs : List Int) : decide (0 ≤ idxI p xs) = xs.any p := by
  unfold idxI
  cases h : xs.findIdx? p with
  | none =>
    rw [List.findIdx?_eq_none_iff] at h
    simp
    intro x hx; have := h x hx; simpa using this
  | some i =>
    rw [List.findIdx?_eq_some_iff_getElem] at h
    obtain ⟨hi, hy, _⟩ := h
    simp
    exact ⟨_, List.getElem_mem hi, hy⟩
/-- a closure with one captured value that leaves the world alone -/
theorem indexFuncI_any (g : FuncId) (cap : Value) (eg : ∀ args w, (callFunc g args).run Try.prog w = .ok (.enter g args) w) (p : Int → Bool) (w : World) (hg : ∀ x, Calls Try.prog g #[.int .i64 x, cap] w fun e w' => e = .returned (.bool (p x)) ∧ w = w')
    (A : Option Addr) (c : Nat) (xs : List Int) (HR : RdI w A xs) :
    Calls Try.prog 53 #[.slice A xs.length c, .func (.func g) #[] #[cap]] w fun e w' => e = .returned (.int .i64 (idxI p xs)) ∧ w = w' := by
  have hm := HR.1
  have HG := Lib.hid hg
  clear hg
  go_enter Try.func53, Try.ntmps53
  go_wp2_with fail
  go_loopw [5, 8] (fun _ i wr => ∃ k : Nat, k ≤ xs.length ∧ i = .int .i64 k ∧ wr = w ∧ Hid (∀ j, j < k → p (gi xs j) = false)) (fun _ i _ => xs.length - (intOf i).toNat)
  case atStart => exact ⟨0, Nat.zero_le _, rfl, rfl, fun j hj => absurd hj (by omega)⟩
  case round =>
    obtain ⟨k, hk, rfl, rfl, hno⟩ := hrel
    by_cases hlt : k < xs.length
    · obtain ⟨ad, rfl, hc⟩ := HR.at_ hlt
      go_wp2_with fail
      refine (HG.out _).mono ?_
      rintro e w' ⟨rfl, rfl⟩
      generalize hp : p (gi xs k) = b
      have HP := Lib.hid hp
      clear hp
      cases b with
      | true =>
        go_wp2_with fail
        go_ret
        exact ⟨ret_int (idxI_found hlt hno.out HP.out).symm, rfl⟩
      | false =>
        go_wp2_with fail
        go_roundw
        case rel => exact ⟨k + 1, by omega, by go_num, by trivial, fun j hj => by
          rcases Nat.lt_or_ge j k with h | h
          · exact hno.out j h
          · obtain rfl : j = k := by omega
            exact HP.out⟩
        case measure => simp [intOf]; omega
    · obtain rfl : k = xs.length := by omega
      go_wp2_with fail
      go_ret
      exact ⟨ret_int (idxI_none hno.out).symm, rfl⟩
theorem containsFuncI_any (g : FuncId) (cap : Value) (eg : ∀ args w, (callFunc g args).run Try.prog w = .ok (.enter g args) w) (p : Int → Bool) (w : World) (hg : ∀ x, Calls Try.prog g #[.int .i64 x, cap] w fun e w' => e = .returned (.bool (p x)) ∧ w = w')
    (A : Option Addr) (c : Nat) (xs : List Int) (HR : RdI w A xs) :
    Calls Try.prog 40 #[.slice A xs.length c, .func (.func g) #[] #[cap]] w fun e w' => e = .returned (.bool (xs.any p)) ∧ w = w' := by
  have HC := Lib.hid (indexFuncI_any g cap eg p w hg A c xs HR)
  clear hg
  go_enter Try.func40, Try.ntmps40
  go_wp2_with fail
  refine HC.out.mono ?_
  rintro e w' ⟨rfl, rfl⟩
  go_wp2_with fail
  go_ret
  exact ⟨ret_bool (idxI_ge p xs), rfl⟩
theorem eg_valid1 : ∀ args w, (callFunc 41 args).run Try.prog w = .ok (.enter 41 args) w := by
  intro args w
  kernel_rfl
theorem valid1_any (p d : Nat) (hd : d ≤ 9) (x : Int) (w : World) (h0 : w.cell? ⟨p, 0, none⟩ = some (.int .i64 d)) :
    Calls Try.prog 41 #[.int .i64 x, .pointer (some ⟨p, 0, none⟩)] w fun e w' => e = .returned (.bool (!readOk d x)) ∧ w = w' := by
  have hp1 := pw_pos d
  have hp9 : pw d ≤ pw 9 := pw_le hd
  rw [pw_9] at hp9
  go_enter Try.func41, Try.ntmps41
  go_wp2_with (first | (go_at_call 39; refine (in_any _ _ _ _).mono ?_; rintro e w' ⟨rfl, rfl⟩) | (go_at_call 42; refine (around_any p 0 d hd _ h0).mono ?_; rintro e w' ⟨rfl, rfl⟩))
  go_ret
  exact ⟨ret_bool rfl, rfl⟩
theorem any_reads (d : Nat) (xs : List Int) : xs.any (fun x => !readOk d x) = !readsOk d xs := by
  cases h : readsOk d xs with
  | true =>
    unfold readsOk at h
    simp only [List.all_eq_true, List.mem_range] at h
    rw [List.any_eq_false.2]
    · rfl
    · intro x hx
      obtain ⟨j, hj, rfl⟩ := List.mem_iff_getElem.1 hx
      have := h j hj
      rw [gi_eq hj] at this
      simp [this]
  | false =>
    unfold readsOk at h
    rw [List.all_eq_false] at h
    obtain ⟨j, hj, hn⟩ := h
    have hj' : j < xs.length := by simpa using hj
    rw [gi_eq hj'] at hn
    rw [List.any_eq_true.2]
    · rfl
    · exact ⟨_, List.getElem_mem hj', by simpa using hn⟩
end Go.Proofs.Ytiikjnokoihhgaa
