/- For every code that an inbox and a number are drawn from: a message has come when it is not behind the count, or is among the early ones. No conditions. -/
import Derived.Test.YtdcojlbekpcejaaInboxSame
import Derived.Test.YtdcojlbekpcejaaLift
namespace Go.Proofs.Ytdcojlbekpcejaa
open Go.ChangeShapes Go.WideShapes Go.ChangeAt Go.RowKit Go.Joins

/-- What the law's loop has found ahead of place k. -/
def someF (a : Int) (l : List Int) (x : Int) (k : Nat) : Bool := decide (x ≤ a ∨ x ∈ l.take k)
theorem someF_zero (a : Int) (l : List Int) (x : Int) : someF a l x 0 = decide (x ≤ a) := by simp [someF]
theorem someF_all {a : Int} {l : List Int} {x : Int} {n : Nat} (h : l.length = n) : someF a l x n = hasB a l x := by simp [someF, hasB, ← h]
theorem someF_next {a : Int} {l : List Int} {x z : Int} {k : Nat} (hz : l[k]? = some z) : someF a l x (k + 1) = (someF a l x k || (z == x)) := by
  rw [Bool.eq_iff_iff]
  simp only [someF, take_snoc hz, decide_eq_true_iff, List.mem_append, List.mem_singleton, Bool.or_eq_true, beq_iff_eq]
  constructor
  · rintro (h | h | h)
    · exact .inl (.inl h)
    · exact .inl (.inr h)
    · exact .inr h.symm
  · rintro ((h | h) | h)
    · exact .inl h
    · exact .inr (.inl h)
    · exact .inr (.inr h.symm)

set_option maxRecDepth 20000 in
set_option maxHeartbeats 2000000 in
theorem fnInboxHas_w (A : Option Addr) (n c : Nat) (zs : List Int) (w : World) (h : IsRow .u8 w A n c zs) : Calls Try.prog 5 #[.slice A n c] w fun e w' => e = .returned (.bool true) ∧ Below w.heap.size w w' := by
  obtain ⟨l1, l2⟩ := row_len h
  by_cases hn : 1048576 < n
  · go_enter Try.func5, Try.ntmps5
    go_wp2_with fail
    go_ret
    exact ⟨rfl, Below.refl _ _⟩
  have g1 : (n : Int) ≤ 1048576 := by omega
  clear hn
  go_enter Try.func5, Try.ntmps5
  go_wp2_with fail
  refine (drawInboxHas_c A n c zs _ h).mono ?_
  rintro e w1 ⟨a, B, m, d, l, x, rfl, hs, hm, ha1, ha2, hx1, hx2, hb1⟩
  have hW := hb1
  go_wp2_with fail
  have hs := hs.al (.cells #[.int .i64 a, .slice B m d] 25)
  have hW := bel_al hW (.cells #[.int .i64 a, .slice B m d] 25)
  have kb := Blk.new w1 25 #[.int .i64 a, .slice B m d]
  have c_kb := kb.cell
  have f_kb := kb.frozen
  refine (implInboxHas_c a B m d l x _ hs (by omega) (by omega)).mono ?_
  rintro e w2 ⟨rfl, hb2⟩
  have hs := hs.bel hb2
  have kb := kb.bel hb2
  have hW := bel_nx hW hb2
  have c_kb := kb.cell
  go_wp2_with fail
  refine (specInboxHas_c a B m d l x _ hs (by omega) (by omega)).mono ?_
  rintro e w3 ⟨rfl, hb3⟩
  have hs := hs.bel hb3
  have kb := kb.bel hb3
  have hW := bel_nx hW hb3
  have c_kb := kb.cell
  obtain ⟨o, ho⟩ : ∃ o, inHasB a l x = o := ⟨_, rfl⟩
  rw [ho]
  have HO := Lib.hid ho
  clear ho hb1 hb2 hb3
  go_wp2_with fail
  refine (specInboxValid_c a B m d l _ hs (by omega) (by omega)).mono ?_
  rintro e w4 ⟨rfl, hb4⟩
  have hs := hs.bel hb4
  have kb := kb.bel hb4
  have hW := bel_nx hW hb4
  have c_kb := kb.cell
  have f_kb := kb.frozen
  clear hb4
  cases hv : inbB a l
  · clear hv
    go_wp2_with fail
    go_ret
    exact ⟨ret_bool (by simp), hW⟩
  have HV := Lib.hid hv
  clear hv
  by_cases x1 : x < 1
  · have e1 : decide (x < 1) = true := decide_eq_true x1
    go_wp2_with fail
    go_ret
    exact ⟨ret_bool (by simp), hW⟩
  have e1 : decide (x < 1) = false := decide_eq_false x1
  by_cases x9 : 999 < x
  · have e2 : decide (999 < x) = true := decide_eq_true x9
    go_wp2_with fail
    go_ret
    exact ⟨ret_bool (by simp), hW⟩
  have e2 : decide (999 < x) = false := decide_eq_false x9
  have HF : Hid (hasB a l x = o) := Lib.hid (by rw [← HO.out, inHasB_yes HV.out ⟨by omega, by omega⟩])
  have HL := Lib.hid hs.len
  have hcap := hs.cap
  have hmax := hs.max
  go_wp2_with fail
  go_loopw [7, 8] (fun sv iv wr => ∃ (i : Nat) (b : Bool), i ≤ m ∧ iv = .int .i64 (i : Int) ∧ sv = .bool b ∧ Hid (b = someF a l x i) ∧ Below w4.heap.size w4 wr) (fun _ iv _ => m - (intOf iv).toNat)
  case atStart => exact ⟨0, decide (x ≤ a), Nat.zero_le _, rfl, rfl, Lib.hid (someF_zero a l x).symm, Below.refl _ _⟩
  case round =>
    obtain ⟨i, b, hi, rfl, rfl, HB, hbr⟩ := hrel
    have kr := kb.bel hbr
    have cr := kr.cell
    have fr := kr.frozen
    by_cases hlt : i < m
    · obtain ⟨bl, off, z, rfl, hz, hcz⟩ := SlI.get (hs.bel hbr) hlt
      have HN := Lib.hid (someF_next (a := a) (x := x) hz)
      clear hz
      have i0 : (0 : Int) ≤ (i : Int) := by omega
      have i1 : (i : Int) < (m : Int) := by omega
      cases b
      · obtain ⟨q, hq⟩ : ∃ q, (z == x) = q := ⟨_, rfl⟩
        have HQ := Lib.hid hq
        cases q
        all_goals
          go_wp2_with fail
          try go_quiet (fail)
          try go_wp2_with fail
          go_roundw
          case rel => exact ⟨i + 1, _, by omega, by go_num, rfl, Lib.hid (by rw [HN.out, ← HB.out, HQ.out]; rfl), by first | exact hbr | exact bel_drN hbr _ | exact bel_dr hbr⟩
          case measure => simp [intOf]; omega
      · go_wp2_with fail
        try go_quiet (fail)
        try go_wp2_with fail
        go_roundw
        case rel => exact ⟨i + 1, true, by omega, by go_num, rfl, Lib.hid (by rw [HN.out, ← HB.out]; rfl), by first | exact hbr | exact bel_drN hbr _ | exact bel_dr hbr⟩
        case measure => simp [intOf]; omega
    · have him : i = m := by omega
      have HBo : Hid (b = o) := Lib.hid (by rw [HB.out, him, someF_all HL.out, HF.out])
      clear him
      go_wp2_with fail
      go_ret
      exact ⟨ret_bool (by rw [HBo.out]; simp), bel_nx hW hbr⟩

set_option maxRecDepth 100000 in
theorem fnInboxHas_l (os : Os) (started : os.Started) (H : Type) (enc : TypeId × Value → H) :
    ReturnsInHanded {} Try.checked os 5 .any (Rows.fnInboxHasSpec.pre6 enc Try.prog Try.f5 Rows.fnInboxHasRow.domain false) (Rows.fnInboxHasSpec.post enc Try.prog Try.f5 false true false false) := by
  refine returnsInHanded_of_change (C := Try.checked) own started (by kernel_rfl) Try.func5
    (ChangeSpec.witness6 (enc := enc) (C := Try.checked) false ⟨#[], #[.slice none 0 0], []⟩ 8 (by kernel_rfl) (by kernel_rfl) (by kernel_rfl) (by kernel_rfl)) ?_
  intro W base args ds gs before hval0 hW hcnd _
  have hval : ∀ (j : Nat) t v, Try.f5.params[j]? = some t → args[j]? = some v → Value.okWide Try.prog W .any base t v := hval0
  have hW' := hW
  obtain ⟨p, q, hA0, hV, rfl, hfz, hnd⟩ := hW
  have hA : DataW.TrodAll enc Try.prog W 0 (fun _ => true) true Try.f5.params.toList args.toList ds p := hA0
  rw [Try.params5] at hA hval
  obtain ⟨v0, vs0, d0, ds0, p0, q0, hargs, rfl, rfl, h0, r0⟩ := trodAll_cons hA
  obtain ⟨rfl, rfl, rfl⟩ := trodAll_nil r0
  obtain rfl : args = #[v0] := by cases args; simp_all
  obtain ⟨rfl, rfl⟩ := trodVars_none hV
  have k0 := h0
  have lt0 : ∀ x ∈ p0, x.block < W.heap.size := by obtain ⟨m, hm⟩ := k0; exact DataW.trod_lt m _ _ _ hm
  obtain ⟨A0, n0, c0, rfl⟩ := okWide_slice Try.underlying22 (hval 0 22 v0 rfl rfl)
  obtain ⟨z0, w0⟩ := bytes_row h0 (fun _ => rfl)
  clear hA0 hval0
  refine (fnInboxHas_w A0 n0 c0 z0 W w0).mono fun e W' ⟨he, bel⟩ => ?_
  subst he
  exact ⟨_, rfl, _, _, _, [], _, [], hW', trodAll_mk1 (shut_bool Try.underlying4 _), (trodAll_cons_mk (Below.trod laidOut (by kernel_rfl) (of_decide_eq_true (by kernel_rfl)) k0 bel lt0) trodAll_mk0), rfl, bel.frame _, fun h => by cases h⟩

theorem fnInboxHas_holds : Rows.FnInboxHasSaid :=
  OpenClaim.holds_of_wide 5 Try.f5 rfl rfl rfl rfl rfl rfl rfl ⟨rfl, rfl, rfl, rfl, rfl⟩ rfl rfl rfl rfl rfl (by kernel_rfl) Try.func5 (by kernel_rfl)
    (of_decide_eq_true (by kernel_rfl)) (by unfold Func.isWrapper; first | (rw [if_pos (by decide +kernel)]; kernel_rfl) | (rw [if_neg (by decide +kernel)]; exact ⟨rfl, rfl⟩))
    (fun os started H enc _ => fnInboxHas_l os started H enc)
#print axioms fnInboxHas_holds

end Go.Proofs.Ytdcojlbekpcejaa
