/- The timers that are due: the walk over the program's TimersDue. -/
import Derived.Test.YtpkakpldhlldeaaTimValid
import Derived.Test.YtpkakpldhlldeaaTexts
namespace Go.Proofs.Ytpkakpldhlldeaa
open Go.RowKit

def dueF (l : List R2) (t : Int) : List ByteArray := (l.filter (fun r => decide (r.1 ≤ t))).map Prod.snd
def leftF (l : List R2) (t : Int) : List R2 := l.filter (fun r => ! decide (r.1 ≤ t))
/-- What TimersDue answers. -/
def dueR (l : List R2) (t : Int) : List ByteArray × List R2 × Bool := if (timB l && decide (0 ≤ t ∧ t ≤ 9999)) = true then (dueF l t, leftF l t, true) else ([], [], false)
theorem dueR_no1 {l : List R2} {t : Int} (h : timB l = false) : dueR l t = ([], [], false) := by simp [dueR, h]
theorem dueR_no2 {l : List R2} {t : Int} (h : decide (0 ≤ t ∧ t ≤ 9999) = false) : dueR l t = ([], [], false) := by unfold dueR; rw [h]; simp
theorem dueR_yes {l : List R2} {t : Int} (h : timB l = true) (ht : decide (0 ≤ t ∧ t ≤ 9999) = true) : dueR l t = (dueF l t, leftF l t, true) := by unfold dueR; rw [h, ht]; simp
theorem take_snocT {l : List R2} {k : Nat} {z : R2} (h : l[k]? = some z) : l.take (k + 1) = l.take k ++ [z] := by
  rw [List.take_add_one, h]; rfl
theorem due_in {l : List R2} {t x : Int} {s : ByteArray} {k : Nat} (h : l[k]? = some (x, s)) (hx : x ≤ t) : dueF (l.take (k + 1)) t = dueF (l.take k) t ++ [s] ∧ leftF (l.take (k + 1)) t = leftF (l.take k) t := by
  rw [take_snocT h]; simp [dueF, leftF, hx]
theorem due_out {l : List R2} {t x : Int} {s : ByteArray} {k : Nat} (h : l[k]? = some (x, s)) (hx : ¬ x ≤ t) : dueF (l.take (k + 1)) t = dueF (l.take k) t ∧ leftF (l.take (k + 1)) t = leftF (l.take k) t ++ [(x, s)] := by
  rw [take_snocT h]; simp [dueF, leftF, hx]

/-- Rows of different elements do not lie in one block. -/
theorem own_ne_own {w : World} {B : Nat} {e1 e2 : TypeId} {s1 s2 n1 n2 : Nat} {v1 v2 : Value} {x1 x2 : List Value} (h1 : w.ownsRow B e1 s1 v1 n1 x1) (h2 : w.ownsRow B e2 s2 v2 n2 x2) (hne : e1 ≠ e2) : v1.ownBlock = none ∨ v1.ownBlock ≠ v2.ownBlock := by
  rcases h1.2 with ⟨h0, _⟩ | ⟨g, cap, cur, hv, _, hh, _⟩
  · subst h0; exact .inl rfl
  · subst hv
    refine .inr fun he => ?_
    exact own_ne_blk h2 (show Blk w g e1 cur from hh) hne.symm (he.symm.trans rfl)

set_option maxRecDepth 20000 in
set_option maxHeartbeats 2000000 in
theorem implTimersDue_c (A : Option Addr) (n c : Nat) (l : List R2) (t : Int) (w : World) (h : SlT w A n c l) (hz : SzT l) : Calls Try.prog 25 #[.slice A n c, .int .i64 t] w fun e w' =>
    ∃ D dn dc F fn fc, e = .returned (.tuple #[.slice D dn dc, .slice F fn fc, .bool (dueR l t).2.2]) ∧ w'.ownsRow w.heap.size 9 1 (.slice D dn dc) dn ((dueR l t).1.map Value.string) ∧
      w'.ownsRow w.heap.size 25 2 (.slice F fn fc) fn ((dueR l t).2.1.flatMap encT) ∧ dn ≤ n ∧ fn ≤ n ∧ Below w.heap.size w w' := by
  obtain ⟨i0, hi0, hz0, hz1, hz2⟩ := info_parts tim_info
  obtain ⟨j0, hj0, hy0, hy1, hy2⟩ := info_parts str_info
  have HL := Lib.hid h.len
  have hcap := h.cap
  have hmax := h.max
  go_enter Try.func25, Try.ntmps25
  go_wp2_with fail
  refine (implTimersValid_c A n c l _ h hz).mono ?_
  rintro e w1 ⟨rfl, hb1⟩
  cases hv : timB l
  · have HF := Lib.hid (dueR_no1 (t := t) hv)
    clear hv
    go_wp2_with fail
    go_ret3
    rw [HF.out]
    exact ⟨none, 0, 0, none, 0, 0, rfl, World.ownsRow_nil _ _ _ _, World.ownsRow_nil _ _ _ _, by omega, by omega, hb1⟩
  have hn8 : n ≤ 8 := by
    have := hv
    simp only [timB, Bool.and_eq_true, decide_eq_true_iff] at this
    have h8 := this.1.1
    rw [HL.out] at h8
    exact h8
  have HV := Lib.hid hv
  clear hv
  go_wp2_with fail
  obtain ⟨bt, hbt⟩ : ∃ q, decide (0 ≤ t ∧ t ≤ 9999) = q := ⟨_, rfl⟩
  refine (isTime_b t bt _ hbt).mono ?_
  rintro e w2 ⟨rfl, rfl⟩
  have HB := Lib.hid hbt
  clear hbt
  cases bt
  · have HF := Lib.hid (dueR_no2 (l := l) HB.out)
    go_wp2_with fail
    go_ret3
    rw [HF.out]
    exact ⟨none, 0, 0, none, 0, 0, rfl, World.ownsRow_nil _ _ _ _, World.ownsRow_nil _ _ _ _, by omega, by omega, hb1⟩
  have HF := Lib.hid (dueR_yes HV.out HB.out)
  go_wp2_with fail
  go_loopw [7, 8, 21] (fun dv fv iv wr => ∃ (k dn dc fn fc : Nat) (D F : Option Addr), k ≤ n ∧ iv = .int .i64 (k : Int) ∧ dv = .slice D dn dc ∧ fv = .slice F fn fc ∧ wr.ownsRow w.heap.size 9 1 (.slice D dn dc) dn ((dueF (l.take k) t).map Value.string) ∧ wr.ownsRow w.heap.size 25 2 (.slice F fn fc) fn ((leftF (l.take k) t).flatMap encT) ∧ dn ≤ k ∧ fn ≤ k ∧ Below w.heap.size w wr) (fun _ _ iv _ => n - (intOf iv).toNat)
  case atStart => exact ⟨0, 0, 0, 0, 0, none, none, Nat.zero_le _, rfl, rfl, rfl, World.ownsRow_nil _ _ _ _, World.ownsRow_nil _ _ _ _, Nat.le_refl _, Nat.le_refl _, hb1⟩
  case round =>
    obtain ⟨k, dn, dc, fn, fc, D, F, hk, rfl, rfl, rfl, hD, hF, hdk, hfk, hbr⟩ := hrel
    have hsz := hbr.size
    by_cases hlt : k < n
    · obtain ⟨b, off, x, s, rfl, hx, hc0, hc1⟩ := SlT.get (h.bel hbr) hlt
      have HX := Lib.hid hx
      clear hx
      have k0 : (0 : Int) ≤ (k : Int) := by omega
      have k1 : (k : Int) < (n : Int) := by omega
      by_cases hxt : x ≤ t
      · have dx : decide (x ≤ t) = true := decide_eq_true hxt
        obtain ⟨e1, e2⟩ := due_in HX.out hxt
        have E1 := Lib.hid e1
        have E2 := Lib.hid e2
        clear e1 e2
        go_wp2_with (at_builtin; refine wpList_append_sl (enc := encS) rfl _ _ 43 rfl w.heap.size 9 j0 (.string ByteArray.empty) 1 16 Try.underlying43 hj0 hy0 hy1 hy2 rfl (by decide) (.slice D dn dc) dn ((dueF (l.take k) t).map Value.string) rfl ((hD.alloc _).alloc _) (some ⟨wr.heap.size + 1, 0, none⟩) 1 1 [s] rfl (fun _ => rfl) (by have hh := Sl.one (enc := encS) (k := 1) (a := s) (Blk.new (wr.alloc (.cells #[.int .i64 x, .string s] 25)) 9 (encS s).toArray); rw [show (wr.alloc (.cells #[.int .i64 x, .string s] 25)).heap.size = wr.heap.size + 1 by simp] at hh; exact hh) one_S (by unfold maxLen; omega) (by omega) (by simp; omega) ?_; intro v5 w5 ho5 hg5 hl5; obtain ⟨A5, c5, rfl⟩ := own_form ho5; rw [flat_encS, ← List.map_append] at ho5)
        have hg := (World.grownBy_alloc wr (.cells #[.int .i64 x, .string s] 25) _).trans ((World.grownBy_alloc _ _ _).trans hg5)
        have hF5 := hF.kept hg (own_ne_own hF hD (by decide))
        go_roundw
        case rel => exact ⟨k + 1, dn + 1, c5, fn, fc, A5, F, by omega, by go_num, rfl, rfl, by rw [E1.out]; exact ho5, by rw [E2.out]; exact hF5, by omega, by omega, hbr.grown hg hsz (fun q hq => (hD.lt q hq).1)⟩
        case measure => simp [intOf]; omega
      · have dx : decide (x ≤ t) = false := decide_eq_false hxt
        obtain ⟨e1, e2⟩ := due_out HX.out hxt
        have E1 := Lib.hid e1
        have E2 := Lib.hid e2
        clear e1 e2
        go_wp2_with (at_builtin; refine wpList_append_sl (enc := encT) rfl _ _ 23 rfl w.heap.size 25 i0 (.agg #[.int .i64 0, .string ByteArray.empty]) 2 24 Try.underlying23 hi0 hz0 hz1 hz2 rfl (by decide) (.slice F fn fc) fn ((leftF (l.take k) t).flatMap encT) rfl ((hF.alloc _).alloc _) (some ⟨wr.heap.size + 1, 0, none⟩) 1 1 [(x, s)] rfl (fun _ => rfl) (by have hh := Sl.one (enc := encT) (k := 2) (a := (x, s)) (Blk.new (wr.alloc (.cells #[.int .i64 x, .string s] 25)) 25 (encT (x, s)).toArray); rw [show (wr.alloc (.cells #[.int .i64 x, .string s] 25)).heap.size = wr.heap.size + 1 by simp] at hh; exact hh) one_T (by unfold maxLen; omega) (by omega) (by simp; omega) ?_; intro v5 w5 ho5 hg5 hl5; obtain ⟨A5, c5, rfl⟩ := own_form ho5; rw [← List.flatMap_append] at ho5)
        have hg := (World.grownBy_alloc wr (.cells #[.int .i64 x, .string s] 25) _).trans ((World.grownBy_alloc _ _ _).trans hg5)
        have hD5 := hD.kept hg (own_ne_own hD hF (by decide))
        go_roundw
        case rel => exact ⟨k + 1, dn, dc, fn + 1, c5, D, A5, by omega, by go_num, rfl, rfl, by rw [E1.out]; exact hD5, by rw [E2.out]; exact ho5, by omega, by omega, hbr.grown hg hsz (fun q hq => (hF.lt q hq).1)⟩
        case measure => simp [intOf]; omega
    · have hkn : l.take k = l := List.take_of_length_le (by rw [HL.out]; omega)
      rw [hkn] at hD hF
      go_wp2_with fail
      go_ret3
      rw [HF.out]
      exact ⟨D, dn, dc, F, fn, fc, rfl, hD, hF, by omega, by omega, hbr⟩

end Go.Proofs.Ytpkakpldhlldeaa
