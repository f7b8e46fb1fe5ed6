/- Slices of records of a name and two numbers: copying, measuring and comparing them. -/
import Derived.Test.YthkgechljfjpdaaSlices
import Derived.Test.YthkgechljfjpdaaAsc
import Derived.Deep.RegionHeld3
import Derived.StillTailTactics
namespace Go.Proofs.Ythkgechljfjpdaa
open Go.RowKit

abbrev R3 : Type := ByteArray × Int × Int
def encR (r : R3) : List Value := [.string r.1, .int .i64 r.2.1, .int .i64 r.2.2]
abbrev SlR (w : World) (A : Option Addr) (n c : Nat) (l : List R3) : Prop := Sl encR 3 w A n c l

theorem SlR.get {w : World} {A : Option Addr} {n c : Nat} {l : List R3} (h : SlR w A n c l) {i : Nat} (hi : i < n) : ∃ b off s x y, A = some ⟨b, off, none⟩ ∧ l[i]? = some (s, x, y) ∧
    w.cell? ⟨b, off + i * 3, none⟩ = some (.string s) ∧ w.cell? ⟨b, off + i * 3 + 1, none⟩ = some (.int .i64 x) ∧ w.cell? ⟨b, off + i * 3 + 2, none⟩ = some (.int .i64 y) := by
  obtain ⟨b, off, hA, ⟨s, x, y⟩, hz, hc⟩ := h.cell0 hi
  exact ⟨b, off, s, x, y, hA, hz, hc 0 _ rfl, hc 1 _ rfl, hc 2 _ rfl⟩

def SzR (l : List R3) : Prop := ∀ r ∈ l, r.1.size ≤ 9223372036854775807
theorem sz_at {l : List R3} (hz : SzR l) {k : Nat} {s : ByteArray} {x y : Int} (h : l[k]? = some (s, x, y)) : s.size ≤ 9223372036854775807 := hz _ (List.mem_of_getElem? h)
theorem rec_info : (Try.prog.info? 45).map (fun i => (i.zero, i.size, i.bytes)) = some (some (.agg #[.string ByteArray.empty, .int .i64 0, .int .i64 0]), 3, 32) := by kernel_rfl

theorem SlR.of_own {w : World} {B : Nat} {e : TypeId} {A : Option Addr} {n c : Nat} {l : List R3} (h : w.ownsRow B e 3 (.slice A n c) n (l.flatMap encR)) : SlR w A n c l := by
  have hl : l.length = n := by
    have := h.1
    rw [flat_len (k := 3) (fun _ => rfl)] at this
    omega
  exact Sl.of_own (fun _ => rfl) h hl

theorem flat_set3 {α : Type} {enc : α → List Value} {f g h : α → Value} (henc : ∀ a, enc a = [f a, g a, h a]) (a : α) : ∀ (l : List α) (i : Nat), (((l.flatMap enc).set (i * 3) (f a)).set (i * 3 + 1) (g a)).set (i * 3 + 2) (h a) = (l.set i a).flatMap enc
  | [], i => by simp
  | x :: l, 0 => by simp [henc]
  | x :: l, i + 1 => by
    have ih := flat_set3 henc a l i
    rw [List.set_cons_succ, List.flatMap_cons, List.flatMap_cons, ← ih, show (i + 1) * 3 = i * 3 + 1 + 1 + 1 by omega]
    simp [henc]

/-- After k rounds the first k elements are copied, the others are as they were made. -/
def cpyD {α : Type} (d : α) (l : List α) (k : Nat) : List α := l.take k ++ List.replicate (l.length - k) d
theorem cpyD_zero {α : Type} (d : α) (l : List α) : cpyD d l 0 = List.replicate l.length d := by simp [cpyD]
theorem cpyD_all {α : Type} (d : α) (l : List α) : cpyD d l l.length = l := by simp [cpyD]
theorem cpyD_step {α : Type} (d : α) (l : List α) (k : Nat) (z : α) (h : l[k]? = some z) : (cpyD d l k).set k z = cpyD d l (k + 1) := by
  have hk : k < l.length := (List.getElem?_eq_some_iff.1 h).1
  apply List.ext_getElem?
  intro i
  unfold cpyD
  rw [List.getElem?_set]
  by_cases hi : k = i
  · subst hi
    rw [if_pos rfl, if_pos (by simp; omega), List.getElem?_append_left (by simp; omega), List.getElem?_take, if_pos (by omega), h]
  · rw [if_neg hi]
    by_cases h1 : i < k
    · rw [List.getElem?_append_left (by simp; omega), List.getElem?_append_left (by simp; omega), List.getElem?_take, List.getElem?_take, if_pos h1, if_pos (by omega)]
    · rw [List.getElem?_append_right (by simp; omega), List.getElem?_append_right (by simp; omega), List.getElem?_replicate, List.getElem?_replicate]
      simp only [List.length_take]
      by_cases h2 : i < l.length
      · rw [if_pos (by omega), if_pos (by omega)]
      · rw [if_neg (by omega), if_neg (by omega)]

def eqR (r r' : R3) : Bool := decide (r = r')
theorem eqR_no {r r' : R3} (h : r ≠ r') : eqR r r' = false := decide_eq_false h
theorem eqR_self (r : R3) : eqR r r = true := decide_eq_true rfl

theorem toRec_c (s : ByteArray) (x y : Int) (w : World) : Calls Try.prog 39 #[.agg #[.string s, .int .i64 x, .int .i64 y]] w fun e w' =>
    e = .returned (.agg #[.string s, .int .i64 x, .int .i64 y]) ∧ Below w.heap.size w w' := by
  go_enter Try.func39, Try.ntmps39
  go_wp2
  refine bodyPost_ret (v := .agg #[.string s, .int .i64 x, .int .i64 y]) (by simp [results, Try.results39, go_sem]) rfl ⟨rfl, ?_⟩
  (repeat' first | exact bel_refl _ | refine bel_al ?_ _ | refine bel_dr ?_ | refine bel_drN ?_ _ | refine bel_nx ?_ (by assumption) | (refine bel_set ?_ (by first | omega | (simp; omega)) _))

theorem eqRec_c (s s' : ByteArray) (x y x' y' : Int) (w : World) : Calls Try.prog 45 #[.agg #[.string s, .int .i64 x, .int .i64 y], .agg #[.string s', .int .i64 x', .int .i64 y']] w fun e w' =>
    e = .returned (.bool (eqR (s, x, y) (s', x', y'))) ∧ Below w.heap.size w w' := by
  by_cases h1 : s = s'
  · subst h1
    by_cases h2 : x = x'
    · subst h2
      by_cases h3 : y = y'
      · subst h3
        go_enter Try.func45, Try.ntmps45
        go_wp2
        go_ret
        exact ⟨ret_bool (eqR_self _).symm, by (repeat' first | exact bel_refl _ | refine bel_al ?_ _ | refine bel_dr ?_ | refine bel_drN ?_ _ | refine bel_nx ?_ (by assumption) | (refine bel_set ?_ (by first | omega | (simp; omega)) _))⟩
      · have e3 : (y == y') = false := by simpa using h3
        have HN := Lib.hid (eqR_no (r := (s, x, y)) (r' := (s, x, y')) (by simpa using h3))
        clear h3
        go_enter Try.func45, Try.ntmps45
        go_wp2
        go_ret
        exact ⟨ret_bool HN.out.symm, by (repeat' first | exact bel_refl _ | refine bel_al ?_ _ | refine bel_dr ?_ | refine bel_drN ?_ _ | refine bel_nx ?_ (by assumption) | (refine bel_set ?_ (by first | omega | (simp; omega)) _))⟩
    · have e2 : (x == x') = false := by simpa using h2
      have HN := Lib.hid (eqR_no (r := (s, x, y)) (r' := (s, x', y')) (by simp; intro h; exact absurd h h2))
      clear h2
      go_enter Try.func45, Try.ntmps45
      go_wp2
      go_ret
      exact ⟨ret_bool HN.out.symm, by (repeat' first | exact bel_refl _ | refine bel_al ?_ _ | refine bel_dr ?_ | refine bel_drN ?_ _ | refine bel_nx ?_ (by assumption) | (refine bel_set ?_ (by first | omega | (simp; omega)) _))⟩
  · have e1 : (s.toList == s'.toList) = false := beqS_no h1
    have HN := Lib.hid (eqR_no (r := (s, x, y)) (r' := (s', x', y')) (by simp; intro h; exact absurd h h1))
    clear h1
    go_enter Try.func45, Try.ntmps45
    go_wp2
    go_ret
    exact ⟨ret_bool HN.out.symm, by (repeat' first | exact bel_refl _ | refine bel_al ?_ _ | refine bel_dr ?_ | refine bel_drN ?_ _ | refine bel_nx ?_ (by assumption) | (refine bel_set ?_ (by first | omega | (simp; omega)) _))⟩

theorem szRec_c (s : ByteArray) (x y left : Int) (w : World) (h0 : 0 ≤ left) (h1 : left ≤ 1048576) (hs : s.size ≤ 9223372036854775807) : Calls Try.prog 38 #[.agg #[.string s, .int .i64 x, .int .i64 y], .int .i64 left] w fun e w' =>
    e = .returned (.int .i64 (if left < s.size then -1 else left - s.size)) ∧ Below w.heap.size w w' := by
  by_cases h : left < s.size
  all_goals
    go_enter Try.func38, Try.ntmps38
    go_wp2
    go_ret
    exact ⟨ret_int (by first | rfl | simp [h]), by (repeat' first | exact bel_refl _ | refine bel_al ?_ _ | refine bel_dr ?_ | refine bel_drN ?_ _ | refine bel_nx ?_ (by assumption) | (refine bel_set ?_ (by first | omega | (simp; omega)) _))⟩

end Go.Proofs.Ythkgechljfjpdaa
