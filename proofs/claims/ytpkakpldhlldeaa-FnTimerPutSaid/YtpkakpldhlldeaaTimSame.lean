/- Slices of timers are the same: the walk over the laws' own comparison. -/
import Derived.Test.YtpkakpldhlldeaaTimS
import Derived.Laws.StructEq
namespace Go.Proofs.Ytpkakpldhlldeaa
open Go.RowKit

theorem neq_tim (x x' : Int) (s s' : ByteArray) (w : World) : (binOp .neq 25 (.agg #[.int .i64 x, .string s]) (.agg #[.int .i64 x', .string s'])).run Try.prog w = .ok (.bool (!eqT (x, s) (x', s'))) w := by
  have u3 := Try.underlying3
  have u9 := Try.underlying9
  have hS : Try.prog.underlying 25 = some (.struct (Try.prog.fieldsOf 25)) := by kernel_rfl
  have hp : Try.prog.stoodInHeld 25 = false := by kernel_rfl
  rw [run_neq_struct, show (10000 : Nat) = 9999 + 1 from rfl, run_equalIn_agg w 9999 25 _ _ hS hp]
  simp only [Program.fieldsOf, Try.underlying25]
  go_simp
  have e : eqT (x, s) (x', s') = ((x == x') && (s.toList == s'.toList)) := by
    rw [beqS]
    unfold eqT
    rw [Bool.eq_iff_iff]
    simp
  rw [e]
  by_cases h1 : s.toList = s'.toList <;> by_cases h2 : x = x' <;> simp [h1, h2]
theorem guard_tim : Try.prog.eqGuardType Try.prog.depth 25 = false := by kernel_rfl

set_option maxRecDepth 20000 in
set_option maxHeartbeats 400000 in
theorem sameTimers_c (A B : Option Addr) (n c n' c' : Nat) (l m : List R2) (w : World) (h : SlT w A n c l) (h' : SlT w B n' c' m) : Calls Try.prog 15 #[.slice A n c, .slice B n' c'] w fun e w' =>
    e = .returned (.bool (eqTL l m)) ∧ Below w.heap.size w w' := by
  have HL := Lib.hid h.len
  have HM := Lib.hid h'.len
  have hcap := h.cap
  have hmax := h.max
  have hcap' := h'.cap
  have hmax' := h'.max
  by_cases hn : n = n'
  · subst hn
    go_enter Try.func15, Try.ntmps15
    go_wp2_with fail
    go_loopw [5] (fun i wr => ∃ k : Nat, k ≤ n ∧ i = .int .i64 k ∧ Below w.heap.size w wr ∧ Hid (∀ j, j < k → l[j]? = m[j]?)) (fun i _ => n - (intOf i).toNat)
    case atStart => exact ⟨0, Nat.zero_le _, rfl, Below.refl _ _, Lib.hid (fun j h => by omega)⟩
    case round =>
      obtain ⟨k, hk, rfl, hbr, H⟩ := hrel
      by_cases hlt : k < n
      · obtain ⟨b, off, x, s, rfl, hx, hcx0, hcx1⟩ := SlT.get (h.bel hbr) hlt
        obtain ⟨b', off', x', s', rfl, hy, hcy0, hcy1⟩ := SlT.get (h'.bel hbr) hlt
        have HX := Lib.hid hx
        have HY := Lib.hid hy
        clear hx hy
        have k0 : (0 : Int) ≤ (k : Int) := by omega
        have k1 : (k : Int) < (n : Int) := by omega
        obtain ⟨q, hq⟩ : ∃ q, eqT (x, s) (x', s') = q := ⟨_, rfl⟩
        have hneq := fun wx => neq_tim x x' s s' wx
        rw [hq] at hneq
        have hgd := guard_tim
        have HQ := Lib.hid hq
        clear hq
        go_wp2_with fail
        go_quiet (fail)
        cases q
        · go_wp2_with fail
          go_ret
          exact ⟨ret_bool (eqTL_at k HX.out HY.out (fun e => by have := HQ.out; rw [e, eqT_self] at this; cases this)).symm, by (repeat' first | assumption | exact bel_refl _ | refine bel_al ?_ _ | refine bel_dr ?_ | refine bel_drN ?_ _ | refine bel_nx ?_ (by assumption) | (refine bel_set ?_ (by first | omega | (simp; omega)) _))⟩
        · go_wp2_with fail
          go_roundw
          case rel => exact ⟨k + 1, by omega, by go_num, by (repeat' first | assumption | exact bel_refl _ | refine bel_al ?_ _ | refine bel_dr ?_ | refine bel_drN ?_ _ | refine bel_nx ?_ (by assumption) | (refine bel_set ?_ (by first | omega | (simp; omega)) _)), Lib.hid (eqTL_next H.out HX.out (by rw [HY.out, eqT_iff.1 HQ.out]))⟩
          case measure => simp [intOf]; omega
      · go_wp2_with fail
        go_ret
        exact ⟨ret_bool (eqTL_yes (by rw [HL.out, HM.out]) (fun j hj => H.out j (by rw [HL.out] at hj; omega))).symm, hbr⟩
  · have hb : ((n : Int) == (n' : Int)) = false := by simp; omega
    go_enter Try.func15, Try.ntmps15
    go_wp2_with fail
    go_ret
    exact ⟨ret_bool (eqTL_len (by rw [HL.out, HM.out]; exact hn)).symm, Below.refl _ _⟩

end Go.Proofs.Ytpkakpldhlldeaa
