/- Timers are compared: the program's compareTimers, the reference's l15Before. -/
import Derived.Test.YtpkakpldhlldeaaTimPlain
import Derived.Test.YtpkakpldhlldeaaTimS
import Derived.RegionTactic
import Derived.Deep.RegionHeld3
namespace Go.Proofs.Ytpkakpldhlldeaa
open Go.RowKit

def cmpI (x y : Int) : Int := if x < y then -1 else if y < x then 1 else 0
def cmpT2 (s t : ByteArray) : Int := if ltS s t = true then -1 else if ltS t s = true then 1 else 0

theorem nanI_c (x : Int) (w : World) : Calls Try.prog 70 #[.int .i64 x] w fun e w' => e = .returned (.bool false) ∧ w = w' := by
  go_enter Try.func70, Try.ntmps70
  go_wp2
  go_ret
  exact ⟨ret_bool (by simp), rfl⟩
theorem nanS_c (s : ByteArray) (w : World) : Calls Try.prog 71 #[.string s] w fun e w' => e = .returned (.bool false) ∧ w = w' := by
  go_enter Try.func71, Try.ntmps71
  go_wp2
  go_ret
  exact ⟨ret_bool (by simp), rfl⟩
theorem cmpInt_c (x y : Int) (w : World) : Calls Try.prog 56 #[.int .i64 x, .int .i64 y] w fun e w' => e = .returned (.int .i64 (cmpI x y)) ∧ w = w' := by
  rcases (show x < y ∨ (¬ x < y ∧ y < x) ∨ (¬ x < y ∧ ¬ y < x) by omega) with h1 | ⟨h1, h2⟩ | ⟨h1, h2⟩
  · have HC : Hid (cmpI x y = -1) := Lib.hid (by simp [cmpI, h1])
    have d0 : decide (x < y) = true := decide_eq_true h1
    clear h1
    go_enter Try.func56, Try.ntmps56
    go_wp2_with (go_at_call 70; refine (nanI_c _ _).mono ?_; rintro e w2 ⟨rfl, rfl⟩)
    go_ret
    exact ⟨ret_int HC.out.symm, rfl⟩
  · have HC : Hid (cmpI x y = 1) := Lib.hid (by simp [cmpI, h1, h2])
    have d0 : decide (x < y) = false := decide_eq_false h1
    have d1 : decide (y < x) = true := decide_eq_true h2
    clear h1 h2
    go_enter Try.func56, Try.ntmps56
    go_wp2_with (go_at_call 70; refine (nanI_c _ _).mono ?_; rintro e w2 ⟨rfl, rfl⟩)
    go_ret
    exact ⟨ret_int HC.out.symm, rfl⟩
  · have HC : Hid (cmpI x y = 0) := Lib.hid (by simp [cmpI, h1, h2])
    have d0 : decide (x < y) = false := decide_eq_false h1
    have d1 : decide (y < x) = false := decide_eq_false h2
    clear h1 h2
    go_enter Try.func56, Try.ntmps56
    go_wp2_with (go_at_call 70; refine (nanI_c _ _).mono ?_; rintro e w2 ⟨rfl, rfl⟩)
    go_ret
    exact ⟨ret_int HC.out.symm, rfl⟩
theorem cmpStr_c (s t : ByteArray) (w : World) : Calls Try.prog 57 #[.string s, .string t] w fun e w' => e = .returned (.int .i64 (cmpT2 s t)) ∧ w = w' := by
  obtain ⟨b1, h1⟩ : ∃ b, ltS s t = b := ⟨_, rfl⟩
  obtain ⟨b2, h2⟩ : ∃ b, ltS t s = b := ⟨_, rfl⟩
  have HC : Hid (cmpT2 s t = if b1 = true then -1 else if b2 = true then 1 else 0) := Lib.hid (by rw [← h1, ← h2]; rfl)
  have d1 : Op.bytesLess s.toList t.toList = b1 := h1
  have d3 : ltS s t = false → (s.toList == t.toList) = !b2 := fun h => by
    rw [beqS, ← h2, Bool.eq_iff_iff, decide_eq_true_iff, Bool.not_eq_true']
    exact ⟨fun e => by rw [e]; exact ltS_irrefl _, fun e => ltS_total h e⟩
  rw [h1] at d3
  clear h1 h2
  cases b1
  · have d4 := d3 rfl
    clear d3
    cases b2
    all_goals
      go_enter Try.func57, Try.ntmps57
      go_wp2_with (go_at_call 71; refine (nanS_c _ _).mono ?_; rintro e w2 ⟨rfl, rfl⟩)
      go_ret
      exact ⟨ret_int HC.out.symm, rfl⟩
  · clear d3
    go_enter Try.func57, Try.ntmps57
    go_wp2_with (go_at_call 71; refine (nanS_c _ _).mono ?_; rintro e w2 ⟨rfl, rfl⟩)
    go_ret
    exact ⟨ret_int HC.out.symm, rfl⟩

def orI (i j : Int) : Int := if i = 0 then j else i
theorem orI_0 {i j : Int} (h : i = 0) : orI i j = j := by rw [orI, if_pos h]
theorem orI_n {i j : Int} (h : ¬ i = 0) : orI i j = i := by rw [orI, if_neg h]
theorem cmpOr_c (g : Nat) (i j : Int) (w : World) (h : Blk w g 3 #[.int .i64 i, .int .i64 j]) : Calls Try.prog 55 #[.slice (some ⟨g, 0, none⟩) 2 2] w fun e w' =>
    e = .returned (.int .i64 (orI i j)) ∧ Below w.heap.size w w' := by
  go_enter Try.func55, Try.ntmps55
  go_wp2_with fail
  go_loopw [8] (fun iv wr => ∃ k : Nat, k ≤ 2 ∧ iv = .int .i64 (k : Int) ∧ Hid (1 ≤ k → i = 0) ∧ Hid (2 ≤ k → j = 0) ∧ Below w.heap.size w wr) (fun iv _ => 2 - (intOf iv).toNat)
  case atStart => exact ⟨0, by omega, rfl, Lib.hid (fun h => by omega), Lib.hid (fun h => by omega), Below.refl _ _⟩
  case round =>
    obtain ⟨k, hk, rfl, H1, H2, hbr⟩ := hrel
    have kr := h.bel hbr
    have cr := kr.cell
    rcases (show k = 0 ∨ k = 1 ∨ k = 2 by omega) with rfl | rfl | rfl
    · by_cases hi : i = 0
      · have e1 : (i != 0) = false := by simpa using hi
        go_wp2_with fail
        go_roundw
        case rel => exact ⟨1, by omega, by go_num, Lib.hid (fun _ => hi), Lib.hid (fun h => by omega), hbr⟩
        case measure => simp [intOf]
      · have e1 : (i != 0) = true := by simpa using hi
        go_wp2_with fail
        go_ret
        exact ⟨ret_int (orI_n hi).symm, hbr⟩
    · have hi := H1.out (by omega)
      by_cases hj : j = 0
      · have e1 : (j != 0) = false := by simpa using hj
        go_wp2_with fail
        go_roundw
        case rel => exact ⟨2, by omega, by go_num, Lib.hid (fun _ => hi), Lib.hid (fun _ => hj), hbr⟩
        case measure => simp [intOf]
      · have e1 : (j != 0) = true := by simpa using hj
        go_wp2_with fail
        go_ret
        exact ⟨ret_int (orI_0 hi).symm, hbr⟩
    · have hi := H1.out (by omega)
      have hj := H2.out (by omega)
      go_wp2_with fail
      go_ret
      exact ⟨ret_int (by rw [orI_0 hi, hj]), hbr⟩

/-- How two timers compare. -/
def cmpTim (a b : R2) : Int := if cmpI a.1 b.1 = 0 then cmpT2 a.2 b.2 else cmpI a.1 b.1
theorem cmpTim_lt (a b : R2) : decide (cmpTim a b < 0) = ltT a b := by
  rw [Bool.eq_iff_iff, decide_eq_true_iff, ltT_iff]
  rcases Int.lt_trichotomy a.1 b.1 with h | h | h
  · have hc : cmpI a.1 b.1 = -1 := by unfold cmpI; rw [if_pos h]
    have e : cmpTim a b = -1 := by unfold cmpTim; rw [hc]; rfl
    rw [e]
    exact ⟨fun _ => .inl h, fun _ => by omega⟩
  · have hc : cmpI a.1 b.1 = 0 := by unfold cmpI; rw [if_neg (by omega), if_neg (by omega)]
    have e : cmpTim a b = cmpT2 a.2 b.2 := by unfold cmpTim; rw [hc, if_pos rfl]
    rw [e]
    unfold cmpT2
    constructor
    · intro hh
      refine .inr ⟨h, ?_⟩
      cases hs : ltS a.2 b.2
      · rw [hs] at hh
        cases ht : ltS b.2 a.2 <;> rw [ht] at hh <;> simp at hh
      · rfl
    · rintro (h' | ⟨_, h'⟩)
      · omega
      · rw [h']; simp
  · have hc : cmpI a.1 b.1 = 1 := by unfold cmpI; rw [if_neg (by omega), if_pos h]
    have e : cmpTim a b = 1 := by unfold cmpTim; rw [hc]; rfl
    rw [e]
    exact ⟨fun h => by omega, fun hh => by rcases hh with hh | ⟨hh, _⟩ <;> omega⟩
theorem cell_al {w : World} {p : Addr} {v : Value} (h : w.cell? p = some v) (o : Obj) : (w.alloc o).cell? p = some v := (cell_alloc_some w o p (by rw [h]; rfl)).trans h
theorem cell_on {w w' : World} {p : Addr} {v : Value} (hb : Below w.heap.size w w') (h : w.cell? p = some v) : w'.cell? p = some v :=
  ((bcell hb (Nat.le_refl _)).1 p (by rw [h]; rfl)).trans h

end Go.Proofs.Ytpkakpldhlldeaa
