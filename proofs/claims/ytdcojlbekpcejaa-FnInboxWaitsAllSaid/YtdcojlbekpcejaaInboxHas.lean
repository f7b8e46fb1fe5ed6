/- A message has come: the walks over the program's and the reference's InboxHas. -/
import Derived.Test.YtdcojlbekpcejaaInbox2
namespace Go.Proofs.Ytdcojlbekpcejaa
open Go.RowKit

/-- A message has come. -/
def hasB (a : Int) (l : List Int) (x : Int) : Bool := decide (x ≤ a ∨ x ∈ l)
/-- What InboxHas answers. -/
def inHasB (a : Int) (l : List Int) (x : Int) : Bool := inbB a l && decide (1 ≤ x ∧ x ≤ 999) && hasB a l x

theorem not_in_of {l : List Int} {n : Nat} {x : Int} (hn : l.length = n) (H : ∀ j, j < n → l[j]? ≠ some x) : x ∉ l := by
  intro h
  obtain ⟨j, hj, he⟩ := List.mem_iff_getElem.1 h
  exact H j (by omega) (by rw [List.getElem?_eq_getElem hj, he])
theorem upto_ne {l : List Int} {k : Nat} {x y : Int} (H : ∀ j, j < k → l[j]? ≠ some x) (hy : l[k]? = some y) (h : ¬ x = y) : ∀ j, j < k + 1 → l[j]? ≠ some x := by
  intro j hj
  rcases Nat.lt_or_ge j k with q | q
  · exact H j q
  · obtain rfl : j = k := by omega
    rw [hy]; intro he; injection he with he; exact h he.symm
theorem hasB_in {a x : Int} {l : List Int} {k : Nat} (h : l[k]? = some x) : hasB a l x = true := by
  have : x ∈ l := List.mem_of_getElem? h
  simp [hasB, this]
theorem hasB_out {a x : Int} {l : List Int} {n : Nat} (hn : l.length = n) (H : ∀ j, j < n → l[j]? ≠ some x) : hasB a l x = decide (x ≤ a) := by
  have := not_in_of hn H
  simp [hasB, this]

theorem index_c (A : Option Addr) (n c : Nat) (l : List Int) (x : Int) (w : World) (h : SlI w A n c l) : Calls Try.prog 54 #[.slice A n c, .int .i64 x] w fun e w' =>
    ∃ i : Int, e = .returned (.int .i64 i) ∧ decide (0 ≤ i) = decide (x ∈ l) ∧ Below w.heap.size w w' := by
  have HL := Lib.hid h.len
  have hcap := h.cap
  have hmax := h.max
  go_enter Try.func54, Try.ntmps54
  go_wp2_with fail
  go_loopw [8] (fun i wr => ∃ k : Nat, k ≤ n ∧ i = .int .i64 k ∧ Hid (∀ j, j < k → l[j]? ≠ some x) ∧ Below w.heap.size w wr) (fun i _ => n - (intOf i).toNat)
  case atStart => exact ⟨0, Nat.zero_le _, rfl, Lib.hid (fun j h => by omega), by (repeat' first | exact bel_refl _ | refine bel_al ?_ _ | refine bel_dr ?_ | refine bel_drN ?_ _ | refine bel_nx ?_ (by assumption) | (refine bel_set ?_ (by first | omega | (simp; omega)) _))⟩
  case round =>
    obtain ⟨k, hk, rfl, H, hbr⟩ := hrel
    by_cases hlt : k < n
    · obtain ⟨b, off, y, rfl, hx, hcx⟩ := SlI.get (h.bel hbr) hlt
      have HX := Lib.hid hx
      clear hx
      have k0 : (0 : Int) ≤ (k : Int) := by omega
      have k1 : (k : Int) < (n : Int) := by omega
      by_cases hxy : x = y
      · subst hxy
        go_wp2_with fail
        go_ret
        refine ⟨_, rfl, ?_, hbr⟩
        rw [decide_eq_true (List.mem_of_getElem? HX.out)]
        simp
      · go_wp2_with fail
        go_roundw
        case rel => exact ⟨k + 1, by omega, by go_num, Lib.hid (upto_ne H.out HX.out hxy), hbr⟩
        case measure => simp [intOf]; omega
    · go_wp2_with fail
      go_ret
      refine ⟨_, rfl, ?_, hbr⟩
      rw [decide_eq_false (not_in_of HL.out (fun j hj => H.out j (by omega)))]
      simp

theorem contains_c (A : Option Addr) (n c : Nat) (l : List Int) (x : Int) (w : World) (h : SlI w A n c l) : Calls Try.prog 49 #[.slice A n c, .int .i64 x] w fun e w' =>
    e = .returned (.bool (decide (x ∈ l))) ∧ Below w.heap.size w w' := by
  go_enter Try.func49, Try.ntmps49
  go_wp2_with fail
  refine (index_c A n c l x _ h).mono ?_
  rintro e w1 ⟨i, rfl, hi, hb1⟩
  have HI := Lib.hid hi
  clear hi
  go_wp2_with fail
  go_ret
  exact ⟨ret_bool HI.out, hb1⟩

theorem implHas_c (a : Int) (A : Option Addr) (n c : Nat) (l : List Int) (x : Int) (w : World) (h : SlI w A n c l) : Calls Try.prog 44 #[.agg #[.int .i64 a, .slice A n c], .int .i64 x] w fun e w' =>
    e = .returned (.bool (hasB a l x)) ∧ Below w.heap.size w w' := by
  by_cases hx : x ≤ a
  · have d0 : decide (x ≤ a) = true := decide_eq_true hx
    have HF : Hid (hasB a l x = true) := Lib.hid (by simp [hasB, hx])
    go_enter Try.func44, Try.ntmps44
    go_wp2_with fail
    go_ret
    exact ⟨ret_bool HF.out.symm, by (repeat' first | exact bel_refl _ | refine bel_al ?_ _ | refine bel_dr ?_ | refine bel_drN ?_ _ | refine bel_nx ?_ (by assumption) | (refine bel_set ?_ (by first | omega | (simp; omega)) _))⟩
  · have d0 : decide (x ≤ a) = false := decide_eq_false hx
    have HF : Hid (hasB a l x = decide (x ∈ l)) := Lib.hid (by simp [hasB, hx])
    go_enter Try.func44, Try.ntmps44
    go_wp2_with fail
    refine (contains_c A n c l x _ (by first | exact h.al _ | exact (h.al _).dr | exact (h.al _).drN _)).mono ?_
    rintro e w1 ⟨rfl, hb1⟩
    go_wp2_with fail
    go_ret
    exact ⟨ret_bool HF.out.symm, by (repeat' first | assumption | exact bel_refl _ | refine bel_al ?_ _ | refine bel_dr ?_ | refine bel_drN ?_ _ | refine bel_nx ?_ (by assumption) | (refine bel_set ?_ (by first | omega | (simp; omega)) _))⟩

theorem specHas_c (a : Int) (A : Option Addr) (n c : Nat) (l : List Int) (x : Int) (w : World) (h : SlI w A n c l) : Calls Try.prog 45 #[.agg #[.int .i64 a, .slice A n c], .int .i64 x] w fun e w' =>
    e = .returned (.bool (hasB a l x)) ∧ Below w.heap.size w w' := by
  have HL := Lib.hid h.len
  have hcap := h.cap
  have hmax := h.max
  go_enter Try.func45, Try.ntmps45
  go_wp2_with fail
  have kb := Blk.new w 25 #[.int .i64 a, .slice A n c]
  go_loopw [5] (fun i wr => ∃ k : Nat, k ≤ n ∧ i = .int .i64 k ∧ Hid (∀ j, j < k → l[j]? ≠ some x) ∧ Below w.heap.size w wr ∧ Blk wr w.heap.size 25 #[.int .i64 a, .slice A n c]) (fun i _ => n - (intOf i).toNat)
  case atStart => exact ⟨0, Nat.zero_le _, rfl, Lib.hid (fun j h => by omega), by (repeat' first | exact bel_refl _ | refine bel_al ?_ _ | refine bel_dr ?_ | refine bel_drN ?_ _ | refine bel_nx ?_ (by assumption) | (refine bel_set ?_ (by first | omega | (simp; omega)) _)), kb⟩
  case round =>
    obtain ⟨k, hk, rfl, H, hbr, hB⟩ := hrel
    have cB := hB.cell
    have fB := hB.frozen
    by_cases hlt : k < n
    · obtain ⟨b, off, y, rfl, hx, hcx⟩ := SlI.get (h.bel hbr) hlt
      have HX := Lib.hid hx
      clear hx
      have k0 : (0 : Int) ≤ (k : Int) := by omega
      have k1 : (k : Int) < (n : Int) := by omega
      by_cases hxy : x = y
      · subst hxy
        have HF := Lib.hid (hasB_in (a := a) HX.out)
        go_wp2_with fail
        go_ret
        exact ⟨ret_bool HF.out.symm, hbr⟩
      · have hyx : (y == x) = false := by simpa using fun e => hxy e.symm
        go_wp2_with fail
        go_roundw
        case rel => exact ⟨k + 1, by omega, by go_num, Lib.hid (upto_ne H.out HX.out hxy), hbr, hB⟩
        case measure => simp [intOf]; omega
    · have HF := Lib.hid (hasB_out (a := a) HL.out (fun j hj => H.out j (by omega)))
      go_wp2_with fail
      go_ret
      exact ⟨ret_bool HF.out.symm, hbr⟩

theorem inHasB_no1 {a x : Int} {l : List Int} (h : inbB a l = false) : inHasB a l x = false := by simp [inHasB, h]
theorem inHasB_no2 {a x : Int} {l : List Int} (h : ¬ (1 ≤ x ∧ x ≤ 999)) : inHasB a l x = false := by simp only [inHasB, decide_eq_false h]; simp
theorem inHasB_yes {a x : Int} {l : List Int} (h : inbB a l = true) (h1 : 1 ≤ x ∧ x ≤ 999) : inHasB a l x = hasB a l x := by simp only [inHasB, h, decide_eq_true h1]; simp

theorem implInboxHas_c (a : Int) (A : Option Addr) (n c : Nat) (l : List Int) (x : Int) (w : World) (h : SlI w A n c l) (ha : -9223372036854775808 ≤ a) (ha2 : a ≤ 9223372036854775807) : Calls Try.prog 23 #[.agg #[.int .i64 a, .slice A n c], .int .i64 x] w fun e w' =>
    e = .returned (.bool (inHasB a l x)) ∧ Below w.heap.size w w' := by
  go_enter Try.func23, Try.ntmps23
  go_wp2_with fail
  have k0 := Blk.new w 25 #[.int .i64 a, .slice A n c]
  refine (implInboxValid_c a A n c l _ (by first | exact h.al _ | exact (h.al _).dr | exact (h.al _).drN _) ha ha2).mono ?_
  rintro e w1 ⟨rfl, hb1⟩
  have k1 := k0.bel (by first | exact hb1 | simpa using hb1)
  have c1 := k1.cell
  have f1 := k1.frozen
  cases hv : inbB a l
  · have HF := Lib.hid (inHasB_no1 (x := x) hv)
    clear hv
    go_wp2_with fail
    go_ret
    exact ⟨ret_bool HF.out.symm, by (repeat' first | assumption | exact bel_refl _ | refine bel_al ?_ _ | refine bel_dr ?_ | refine bel_drN ?_ _ | refine bel_nx ?_ (by assumption) | (refine bel_set ?_ (by first | omega | (simp; omega)) _))⟩
  have HV := Lib.hid hv
  clear hv
  by_cases x1 : 1 ≤ x
  · have d1 : decide (1 ≤ x) = true := decide_eq_true x1
    by_cases x2 : x ≤ 999
    · have d2 : decide (x ≤ 999) = true := decide_eq_true x2
      have HF := Lib.hid (inHasB_yes HV.out ⟨x1, x2⟩)
      go_wp2_with fail
      refine (implHas_c a A n c l x _ (by first | exact (h.al _).bel hb1 | exact ((h.al _).bel hb1).dr | exact ((h.al _).bel hb1).drN _ | exact (((h.al _).dr).bel hb1) | exact (((h.al _).dr).bel hb1).dr)).mono ?_
      rintro e w2 ⟨rfl, hb2⟩
      go_wp2_with fail
      go_ret
      exact ⟨ret_bool HF.out.symm, by (repeat' first | assumption | exact bel_refl _ | refine bel_al ?_ _ | refine bel_dr ?_ | refine bel_drN ?_ _ | refine bel_nx ?_ (by assumption) | (refine bel_set ?_ (by first | omega | (simp; omega)) _))⟩
    · have d2 : decide (x ≤ 999) = false := decide_eq_false x2
      have HF := Lib.hid (inHasB_no2 (a := a) (l := l) (x := x) (fun h => x2 h.2))
      go_wp2_with fail
      go_ret
      exact ⟨ret_bool HF.out.symm, by (repeat' first | assumption | exact bel_refl _ | refine bel_al ?_ _ | refine bel_dr ?_ | refine bel_drN ?_ _ | refine bel_nx ?_ (by assumption) | (refine bel_set ?_ (by first | omega | (simp; omega)) _))⟩
  · have d1 : decide (1 ≤ x) = false := decide_eq_false x1
    have HF := Lib.hid (inHasB_no2 (a := a) (l := l) (x := x) (fun h => x1 h.1))
    go_wp2_with fail
    go_ret
    exact ⟨ret_bool HF.out.symm, by (repeat' first | assumption | exact bel_refl _ | refine bel_al ?_ _ | refine bel_dr ?_ | refine bel_drN ?_ _ | refine bel_nx ?_ (by assumption) | (refine bel_set ?_ (by first | omega | (simp; omega)) _))⟩

theorem specInboxHas_c (a : Int) (A : Option Addr) (n c : Nat) (l : List Int) (x : Int) (w : World) (h : SlI w A n c l) (ha : -9223372036854775808 ≤ a) (ha2 : a ≤ 9223372036854775807) : Calls Try.prog 24 #[.agg #[.int .i64 a, .slice A n c], .int .i64 x] w fun e w' =>
    e = .returned (.bool (inHasB a l x)) ∧ Below w.heap.size w w' := by
  go_enter Try.func24, Try.ntmps24
  go_wp2_with fail
  have k0 := Blk.new w 25 #[.int .i64 a, .slice A n c]
  refine (specInboxValid_c a A n c l _ (by first | exact h.al _ | exact (h.al _).dr | exact (h.al _).drN _) ha ha2).mono ?_
  rintro e w1 ⟨rfl, hb1⟩
  have k1 := k0.bel (by first | exact hb1 | simpa using hb1)
  have c1 := k1.cell
  have f1 := k1.frozen
  cases hv : inbB a l
  · have HF := Lib.hid (inHasB_no1 (x := x) hv)
    clear hv
    go_wp2_with fail
    go_ret
    exact ⟨ret_bool HF.out.symm, by (repeat' first | assumption | exact bel_refl _ | refine bel_al ?_ _ | refine bel_dr ?_ | refine bel_drN ?_ _ | refine bel_nx ?_ (by assumption) | (refine bel_set ?_ (by first | omega | (simp; omega)) _))⟩
  have HV := Lib.hid hv
  clear hv
  go_wp2_with fail
  obtain ⟨b, hb⟩ : ∃ b, (decide (1 ≤ x) && decide (x ≤ 999)) = b := ⟨_, rfl⟩
  refine (l6In_b x 1 999 b _ hb).mono ?_
  rintro e w2 ⟨rfl, rfl⟩
  cases b
  · have HF := Lib.hid (inHasB_no2 (a := a) (l := l) (x := x) (fun h => by simp [h.1, h.2] at hb))
    clear hb
    go_wp2_with fail
    go_ret
    exact ⟨ret_bool HF.out.symm, by (repeat' first | assumption | exact bel_refl _ | refine bel_al ?_ _ | refine bel_dr ?_ | refine bel_drN ?_ _ | refine bel_nx ?_ (by assumption) | (refine bel_set ?_ (by first | omega | (simp; omega)) _))⟩
  · have HF := Lib.hid (inHasB_yes HV.out (by simpa using hb))
    clear hb
    go_wp2_with fail
    refine (specHas_c a A n c l x _ (by first | exact (h.al _).bel hb1 | exact ((h.al _).bel hb1).dr | exact ((h.al _).bel hb1).drN _ | exact (((h.al _).dr).bel hb1) | exact (((h.al _).dr).bel hb1).dr)).mono ?_
    rintro e w3 ⟨rfl, hb3⟩
    go_wp2_with fail
    go_ret
    exact ⟨ret_bool HF.out.symm, by (repeat' first | assumption | exact bel_refl _ | refine bel_al ?_ _ | refine bel_dr ?_ | refine bel_drN ?_ _ | refine bel_nx ?_ (by assumption) | (refine bel_set ?_ (by first | omega | (simp; omega)) _))⟩

end Go.Proofs.Ytdcojlbekpcejaa
