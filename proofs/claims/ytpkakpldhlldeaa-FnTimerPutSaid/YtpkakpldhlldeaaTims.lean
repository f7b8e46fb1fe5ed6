/- Slices of timers (a number and a text): copied, measured and compared. -/
import Derived.Test.YtpkakpldhlldeaaSlices
import Derived.Test.YtpkakpldhlldeaaAsc
import Derived.Deep.RegionHeld3
import Derived.StillTailTactics
namespace Go.Proofs.Ytpkakpldhlldeaa
open Go.RowKit

abbrev R2 : Type := Int × ByteArray
def encT (r : R2) : List Value := [.int .i64 r.1, .string r.2]
abbrev SlT (w : World) (A : Option Addr) (n c : Nat) (l : List R2) : Prop := Sl encT 2 w A n c l

theorem SlT.get {w : World} {A : Option Addr} {n c : Nat} {l : List R2} (h : SlT w A n c l) {i : Nat} (hi : i < n) : ∃ b off x s, A = some ⟨b, off, none⟩ ∧ l[i]? = some (x, s) ∧
    w.cell? ⟨b, off + i * 2, none⟩ = some (.int .i64 x) ∧ w.cell? ⟨b, off + i * 2 + 1, none⟩ = some (.string s) := by
  obtain ⟨b, off, hA, ⟨x, s⟩, hz, hc⟩ := h.cell0 hi
  exact ⟨b, off, x, s, hA, hz, hc 0 _ rfl, hc 1 _ rfl⟩

def SzT (l : List R2) : Prop := ∀ r ∈ l, r.2.size ≤ 9223372036854775807
theorem szT_at {l : List R2} (hz : SzT l) {k : Nat} {x : Int} {s : ByteArray} (h : l[k]? = some (x, s)) : s.size ≤ 9223372036854775807 := hz _ (List.mem_of_getElem? h)
theorem tim_info : (Try.prog.info? 25).map (fun i => (i.zero, i.size, i.bytes)) = some (some (.agg #[.int .i64 0, .string ByteArray.empty]), 2, 24) := by kernel_rfl
theorem one_T (r : R2) (u : Value) (hu : u ∈ encT r) : u.oneCell' = true := by simp [encT] at hu; rcases hu with rfl | rfl <;> rfl

theorem SlT.of_own {w : World} {B : Nat} {e : TypeId} {A : Option Addr} {n c : Nat} {l : List R2} (h : w.ownsRow B e 2 (.slice A n c) n (l.flatMap encT)) : SlT w A n c l := by
  have hl : l.length = n := by
    have := h.1
    rw [flat_len (k := 2) (fun _ => rfl)] at this
    omega
  exact Sl.of_own (fun _ => rfl) h hl

theorem flat_set2 {α : Type} {enc : α → List Value} {f g : α → Value} (henc : ∀ a, enc a = [f a, g a]) (a : α) : ∀ (l : List α) (i : Nat), (((l.flatMap enc).set (i * 2) (f a)).set (i * 2 + 1) (g a)) = (l.set i a).flatMap enc
  | [], i => by simp
  | x :: l, 0 => by simp [henc]
  | x :: l, i + 1 => by
    have ih := flat_set2 henc a l i
    rw [List.set_cons_succ, List.flatMap_cons, List.flatMap_cons, ← ih, show (i + 1) * 2 = i * 2 + 1 + 1 by omega]
    simp [henc]

/-- After k rounds the first k elements are copied, the others are as they were made. -/
def cpyD {α : Type} (d : α) (l : List α) (k : Nat) : List α := l.take k ++ List.replicate (l.length - k) d
theorem cpyD_zero {α : Type} (d : α) (l : List α) : cpyD d l 0 = List.replicate l.length d := by simp [cpyD]
theorem cpyD_all {α : Type} (d : α) (l : List α) : cpyD d l l.length = l := by simp [cpyD]
theorem cpyD_step {α : Type} (d : α) (l : List α) (k : Nat) (z : α) (h : l[k]? = some z) : (cpyD d l k).set k z = cpyD d l (k + 1) := by
  have hk : k < l.length := (List.getElem?_eq_some_iff.1 h).1
  apply List.ext_getElem?
  intro i
  unfold cpyD
  rw [List.getElem?_set]
  by_cases hi : k = i
  · subst hi
    rw [if_pos rfl, if_pos (by simp; omega), List.getElem?_append_left (by simp; omega), List.getElem?_take, if_pos (by omega), h]
  · rw [if_neg hi]
    by_cases h1 : i < k
    · rw [List.getElem?_append_left (by simp; omega), List.getElem?_append_left (by simp; omega), List.getElem?_take, List.getElem?_take, if_pos h1, if_pos (by omega)]
    · rw [List.getElem?_append_right (by simp; omega), List.getElem?_append_right (by simp; omega), List.getElem?_replicate, List.getElem?_replicate]
      simp only [List.length_take]
      by_cases h2 : i < l.length
      · rw [if_pos (by omega), if_pos (by omega)]
      · rw [if_neg (by omega), if_neg (by omega)]

def eqT (r r' : R2) : Bool := decide (r = r')
theorem eqT_no {r r' : R2} (h : r ≠ r') : eqT r r' = false := decide_eq_false h
theorem eqT_self (r : R2) : eqT r r = true := decide_eq_true rfl

theorem toTimer_c (x : Int) (s : ByteArray) (w : World) : Calls Try.prog 20 #[.agg #[.int .i64 x, .string s]] w fun e w' =>
    e = .returned (.agg #[.int .i64 x, .string s]) ∧ Below w.heap.size w w' := by
  go_enter Try.func20, Try.ntmps20
  go_wp2
  refine bodyPost_ret (v := .agg #[.int .i64 x, .string s]) (by simp [results, Try.results20, go_sem]) rfl ⟨rfl, ?_⟩
  (repeat' first | exact bel_refl _ | refine bel_al ?_ _ | refine bel_dr ?_ | refine bel_drN ?_ _ | refine bel_nx ?_ (by assumption) | (refine bel_set ?_ (by first | omega | (simp; omega)) _))

theorem eqTimer_c (x x' : Int) (s s' : ByteArray) (w : World) : Calls Try.prog 44 #[.agg #[.int .i64 x, .string s], .agg #[.int .i64 x', .string s']] w fun e w' =>
    e = .returned (.bool (eqT (x, s) (x', s'))) ∧ Below w.heap.size w w' := by
  by_cases h2 : x = x'
  · subst h2
    by_cases h1 : s = s'
    · subst h1
      have e1 : (s.toList == s.toList) = true := by simp
      go_enter Try.func44, Try.ntmps44
      go_wp2
      go_ret
      exact ⟨ret_bool (eqT_self _).symm, by (repeat' first | exact bel_refl _ | refine bel_al ?_ _ | refine bel_dr ?_ | refine bel_drN ?_ _ | refine bel_nx ?_ (by assumption) | (refine bel_set ?_ (by first | omega | (simp; omega)) _))⟩
    · have e1 : (s.toList == s'.toList) = false := beqS_no h1
      have HN := Lib.hid (eqT_no (r := (x, s)) (r' := (x, s')) (by simpa using h1))
      clear h1
      go_enter Try.func44, Try.ntmps44
      go_wp2
      go_ret
      exact ⟨ret_bool HN.out.symm, by (repeat' first | exact bel_refl _ | refine bel_al ?_ _ | refine bel_dr ?_ | refine bel_drN ?_ _ | refine bel_nx ?_ (by assumption) | (refine bel_set ?_ (by first | omega | (simp; omega)) _))⟩
  · have e2 : (x == x') = false := by simpa using h2
    have HN := Lib.hid (eqT_no (r := (x, s)) (r' := (x', s')) (by simp; intro h; exact absurd h h2))
    clear h2
    go_enter Try.func44, Try.ntmps44
    go_wp2
    go_ret
    exact ⟨ret_bool HN.out.symm, by (repeat' first | exact bel_refl _ | refine bel_al ?_ _ | refine bel_dr ?_ | refine bel_drN ?_ _ | refine bel_nx ?_ (by assumption) | (refine bel_set ?_ (by first | omega | (simp; omega)) _))⟩

theorem szTimer_c (x left : Int) (s : ByteArray) (w : World) (h0 : 0 ≤ left) (h1 : left ≤ 1048576) (hs : s.size ≤ 9223372036854775807) : Calls Try.prog 18 #[.agg #[.int .i64 x, .string s], .int .i64 left] w fun e w' =>
    e = .returned (.int .i64 (if left < s.size then -1 else left - s.size)) ∧ Below w.heap.size w w' := by
  by_cases h : left < s.size
  all_goals
    go_enter Try.func18, Try.ntmps18
    go_wp2
    go_ret
    exact ⟨ret_int (by first | rfl | simp [h]), by (repeat' first | exact bel_refl _ | refine bel_al ?_ _ | refine bel_dr ?_ | refine bel_drN ?_ _ | refine bel_nx ?_ (by assumption) | (refine bel_set ?_ (by first | omega | (simp; omega)) _))⟩

end Go.Proofs.Ytpkakpldhlldeaa
