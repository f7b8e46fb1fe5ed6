/- Slices of records of a name and two numbers are the same: the walk over the laws' own comparison. -/
import Derived.Test.YthkgechljfjpdaaRecS
import Derived.Laws.StructEq
namespace Go.Proofs.Ythkgechljfjpdaa
open Go.RowKit

theorem neq_rec (s s' : ByteArray) (x y x' y' : Int) (w : World) : (binOp .neq 45 (.agg #[.string s, .int .i64 x, .int .i64 y]) (.agg #[.string s', .int .i64 x', .int .i64 y'])).run Try.prog w = .ok (.bool (!eqR (s, x, y) (s', x', y'))) w := by
  have u3 := Try.underlying3
  have u9 := Try.underlying9
  have hS : Try.prog.underlying 45 = some (.struct (Try.prog.fieldsOf 45)) := by kernel_rfl
  have hp : Try.prog.stoodInHeld 45 = false := by kernel_rfl
  rw [run_neq_struct, show (10000 : Nat) = 9999 + 1 from rfl, run_equalIn_agg w 9999 45 _ _ hS hp]
  simp only [Program.fieldsOf, Try.underlying45]
  go_simp
  have e : eqR (s, x, y) (s', x', y') = ((s.toList == s'.toList) && (x == x') && (y == y')) := by
    rw [beqS]
    unfold eqR
    rw [Bool.eq_iff_iff]
    simp [and_assoc]
  rw [e]
  by_cases h1 : s.toList = s'.toList <;> by_cases h2 : x = x' <;> by_cases h3 : y = y' <;> simp [h1, h2, h3]
theorem guard_rec : Try.prog.eqGuardType Try.prog.depth 45 = false := by kernel_rfl

set_option maxRecDepth 20000 in
set_option maxHeartbeats 400000 in
theorem sameRecS_c (A B : Option Addr) (n c n' c' : Nat) (l m : List R3) (w : World) (h : SlR w A n c l) (h' : SlR w B n' c' m) : Calls Try.prog 31 #[.slice A n c, .slice B n' c'] w fun e w' =>
    e = .returned (.bool (eqRL l m)) ∧ Below w.heap.size w w' := by
  have HL := Lib.hid h.len
  have HM := Lib.hid h'.len
  have hcap := h.cap
  have hmax := h.max
  have hcap' := h'.cap
  have hmax' := h'.max
  by_cases hn : n = n'
  · subst hn
    go_enter Try.func31, Try.ntmps31
    go_wp2_with fail
    go_loopw [5] (fun i wr => ∃ k : Nat, k ≤ n ∧ i = .int .i64 k ∧ Below w.heap.size w wr ∧ Hid (∀ j, j < k → l[j]? = m[j]?)) (fun i _ => n - (intOf i).toNat)
    case atStart => exact ⟨0, Nat.zero_le _, rfl, Below.refl _ _, Lib.hid (fun j h => by omega)⟩
    case round =>
      obtain ⟨k, hk, rfl, hbr, H⟩ := hrel
      by_cases hlt : k < n
      · obtain ⟨b, off, s, x, y, rfl, hx, hcx0, hcx1, hcx2⟩ := SlR.get (h.bel hbr) hlt
        obtain ⟨b', off', s', x', y', rfl, hy, hcy0, hcy1, hcy2⟩ := SlR.get (h'.bel hbr) hlt
        have HX := Lib.hid hx
        have HY := Lib.hid hy
        clear hx hy
        have k0 : (0 : Int) ≤ (k : Int) := by omega
        have k1 : (k : Int) < (n : Int) := by omega
        obtain ⟨q, hq⟩ : ∃ q, eqR (s, x, y) (s', x', y') = q := ⟨_, rfl⟩
        have hneq := fun wx => neq_rec s s' x y x' y' wx
        rw [hq] at hneq
        have hgd := guard_rec
        have HQ := Lib.hid hq
        clear hq
        go_wp2_with fail
        go_quiet (fail)
        cases q
        · go_wp2_with fail
          go_ret
          exact ⟨ret_bool (eqRL_at k HX.out HY.out (fun e => by have := HQ.out; rw [e, eqR_self] at this; cases this)).symm, by (repeat' first | assumption | exact bel_refl _ | refine bel_al ?_ _ | refine bel_dr ?_ | refine bel_drN ?_ _ | refine bel_nx ?_ (by assumption) | (refine bel_set ?_ (by first | omega | (simp; omega)) _))⟩
        · go_wp2_with fail
          go_roundw
          case rel => exact ⟨k + 1, by omega, by go_num, by (repeat' first | assumption | exact bel_refl _ | refine bel_al ?_ _ | refine bel_dr ?_ | refine bel_drN ?_ _ | refine bel_nx ?_ (by assumption) | (refine bel_set ?_ (by first | omega | (simp; omega)) _)), Lib.hid (eqRL_next H.out HX.out (by rw [HY.out, eqR_iff.1 HQ.out]))⟩
          case measure => simp [intOf]; omega
      · go_wp2_with fail
        go_ret
        exact ⟨ret_bool (eqRL_yes (by rw [HL.out, HM.out]) (fun j hj => H.out j (by rw [HL.out] at hj; omega))).symm, hbr⟩
  · have hb : ((n : Int) == (n' : Int)) = false := by simp; omega
    go_enter Try.func31, Try.ntmps31
    go_wp2_with fail
    go_ret
    exact ⟨ret_bool (eqRL_len (by rw [HL.out, HM.out]; exact hn)).symm, Below.refl _ _⟩

end Go.Proofs.Ythkgechljfjpdaa
