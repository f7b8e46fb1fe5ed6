/- For all leases, every time, name, owner and span the program's LeaseTake returns what the reference's returns, leaves its arguments as they were, and shares no memory. No conditions. -/
import Derived.Test.YthkgechljfjpdaaLeaseTakeSpec
import Derived.Test.YthkgechljfjpdaaRecMark
import Derived.Test.YthkgechljfjpdaaRecRow
namespace Go.Proofs.Ythkgechljfjpdaa
open Go.ChangeShapes Go.WideShapes Go.ChangeAt Go.RowKit Go.Joins

theorem eqRL_self (l : List R3) : eqRL l l = true := decide_eq_true rfl

/-- A row that was there before another one was made lies elsewhere. -/
theorem own_apart {w1 w2 : World} {B1 B2 : Nat} {e1 e2 : TypeId} {s1 s2 : Nat} {v1 v2 : Value} {n1 n2 : Nat} {x1 x2 : List Value} (h1 : w1.ownsRow B1 e1 s1 v1 n1 x1) (h2 : w2.ownsRow B2 e2 s2 v2 n2 x2) (hB : w1.heap.size ≤ B2) :
    (v1.ownBlock = none ∨ v1.ownBlock ≠ v2.ownBlock) ∧ (v2.ownBlock = none ∨ v2.ownBlock ≠ v1.ownBlock) := by
  constructor
  · rcases h : v1.ownBlock with _ | k
    · exact .inl rfl
    · refine .inr fun e => ?_
      have a := (h1.lt k h).2
      have b := (h2.lt k e.symm).1
      omega
  · rcases h : v2.ownBlock with _ | k
    · exact .inl rfl
    · refine .inr fun e => ?_
      have a := (h2.lt k h).1
      have b := (h1.lt k e.symm).2
      omega
theorem bel_own {w W wx : World} {B : Nat} {e : TypeId} {s : Nat} {v : Value} {n : Nat} {xs : List Value} (hb : Below w.heap.size w W) (ho : W.ownsRow B e s v n xs) (hB : w.heap.size ≤ B) (hg : W.grownBy wx v.ownBlock) : Below w.heap.size w wx :=
  hb.grown hg hb.size (fun j hj => Nat.le_trans hB (ho.lt j hj).1)

theorem finR_len (l : List R3) : (finR l).1.length ≤ l.length := by unfold finR; split <;> simp
theorem takeR_len (l : List R3) (now : Int) (s : ByteArray) (o span : Int) : (takeR l now s o span).1.length ≤ l.length + 1 := by
  unfold takeR
  split
  · split
    · rename_i out hout
      refine Nat.le_trans (finR_len out) ?_
      unfold takeOut at hout
      split at hout
      · cases hout; rw [insR_len]; omega
      · split at hout
        · split at hout
          · cases hout; simp
          · cases hout
        · cases hout; simp
    · simp
  · simp

set_option maxRecDepth 20000 in
set_option maxHeartbeats 2000000 in
theorem exactLeaseTake_w (A : Option Addr) (n c : Nat) (l : List R3) (now : Int) (s : ByteArray) (o span : Int) (w : World) (h : SlR w A n c l) (hz : SzR l) (hs : s.size ≤ 9223372036854775807) : Calls Try.prog 4 #[.slice A n c, .int .i64 now, .string s, .int .i64 o, .int .i64 span] w fun e w' => e = .returned (.bool true) ∧ Below w.heap.size w w' := by
  have HE := Lib.hid eqRL_self
  have HH := Lib.hid h
  have HL := Lib.hid h.len
  obtain ⟨⟨lr, br⟩, hR⟩ : ∃ R, takeR l now s o span = R := ⟨_, rfl⟩
  have hlr : lr.length ≤ l.length + 1 := by have := takeR_len l now s o span; rw [hR] at this; exact this
  have HLR := Lib.hid hlr
  have HR := Lib.hid hR
  clear hR hlr
  by_cases hs1 : 1048576 < s.size
  · go_enter Try.func4, Try.ntmps4
    go_wp2_with fail
    go_ret
    exact ⟨rfl, Below.refl _ _⟩
  go_enter Try.func4, Try.ntmps4
  go_wp2_with fail
  refine (szRecS_c A n c l _ 1048576 h hz (by omega) (by omega)).mono ?_
  rintro e w0 ⟨r, rfl, hr, hb0⟩
  have h := h.bel hb0
  rcases hr with hr | ⟨hr0, hr1, hr2⟩
  · go_wp2_with fail
    go_ret
    exact ⟨rfl, hb0⟩
  go_wp2_with fail
  refine (toRecS_c _ _ _ l _ h (by omega)).mono ?_
  rintro e w1 ⟨A1, c1, rfl, hown1, hb1⟩
  have h := h.bel hb1
  go_wp2_with fail
  refine (specLeaseTake_c _ _ _ l now s o span _ (SlR.of_own hown1) hz hs).mono ?_
  rintro e w2 ⟨AW, nW, cW, rfl, hW, hb2⟩
  rw [HR.out] at hW ⊢
  have hW2 := hW
  have h := h.bel hb2
  go_wp2_with fail
  refine (toRecS_c _ _ _ l _ h (by omega)).mono ?_
  rintro e w3 ⟨AX, cX, rfl, hX, hb3⟩
  have hX3 := hX
  have h := h.bel hb3
  have hW := own_bel hW hb3
  go_wp2_with fail
  refine (implLeaseTake_c _ _ _ l now s o span _ (SlR.of_own hX) hz hs).mono ?_
  rintro e w4 ⟨AG, nG, cG, rfl, hG, hb4⟩
  rw [HR.out] at hG ⊢
  have hG4 := hG
  have h := h.bel hb4
  have hW := own_bel hW hb4
  have hX := own_bel hX hb4
  have hnG : nG = lr.length := by
    have := hG.1
    rw [flat_len (k := 3) (fun _ => rfl)] at this
    simp at this
    omega
  have hnG2 : nG ≤ 1048577 := by have := HLR.out; have := HL.out; omega
  have HNG := Lib.hid hnG
  clear hnG
  go_wp2_with fail
  refine (eqRecS_c _ _ _ _ _ _ lr lr _ (SlR.of_own hG) (SlR.of_own hW)).mono ?_
  rintro e w5 ⟨rfl, hb5⟩
  rw [HE.out lr]
  have h := h.bel hb5
  have hW := own_bel hW hb5
  have hX := own_bel hX hb5
  have hG := own_bel hG hb5
  go_wp2_with fail
  refine (toRecS_c _ _ _ l _ h (by omega)).mono ?_
  rintro e w6 ⟨A6, c6, rfl, hown6, hb6⟩
  have h := h.bel hb6
  have hW := own_bel hW hb6
  have hX := own_bel hX hb6
  have hG := own_bel hG hb6
  go_wp2_with fail
  refine (eqRecS_c _ _ _ _ _ _ l l _ (SlR.of_own hX) (SlR.of_own hown6)).mono ?_
  rintro e w7 ⟨rfl, hb7⟩
  rw [HE.out l]
  have h := h.bel hb7
  have hW := own_bel hW hb7
  have hX := own_bel hX hb7
  have hG := own_bel hG hb7
  have hbA := bel_nx (bel_nx (bel_nx (bel_nx (bel_nx (bel_nx (bel_nx hb0 hb1) hb2) hb3) hb4) hb5) hb6) hb7
  have hz2 := (bel_nx (bel_nx hb0 hb1) hb2).size
  have hz3 := (bel_nx (bel_nx (bel_nx hb0 hb1) hb2) hb3).size
  have aWX := (own_apart hW2 hX (Nat.le_refl _)).1
  have aGX := (own_apart hX3 hG (Nat.le_refl _)).2
  have aWG := (own_apart hW2 hG4 hb3.size).1
  have aHX : SlR w7 A n c l := h
  have hlt7 : ∀ j, (Value.slice AX n cX).ownBlock = some j → w.heap.size ≤ j := fun j hj => Nat.le_trans hz2 (hX.lt j hj).1
  have hlG : ∀ j, (Value.slice AG nG cG).ownBlock = some j → w.heap.size ≤ j := fun j hj => Nat.le_trans hz3 (hG.lt j hj).1
  clear hW2 hX3 hG4
  go_wp2_with fail
  refine (markRecS_c _ _ _ _ 1 l _ hX (by omega) (by omega)).mono ?_
  rintro e w8 ⟨rfl, hX8, hg8⟩
  have hW := hW.kept hg8 aWX
  have hG := hG.kept hg8 aGX
  have hbB := hbA.grown hg8 hbA.size hlt7
  have k0 : (0 : Int) ≤ ((1 + 3 * n : Nat) : Int) := by omega
  go_wp2_with fail
  refine (eqRecS_c _ _ _ _ _ _ lr lr _ (SlR.of_own hG) (SlR.of_own hW)).mono ?_
  rintro e w9 ⟨rfl, hb9⟩
  rw [HE.out lr]
  have hW := own_bel hW hb9
  have hG := own_bel hG hb9
  have hbC := bel_nx hbB hb9
  go_wp2_with fail
  refine (markRecS_c _ _ _ _ 1 lr _ hG (by omega) (by omega)).mono ?_
  rintro e w10 ⟨rfl, hG10, hg10⟩
  have hW := hW.kept hg10 aWG
  have hbD := hbC.grown hg10 hbC.size hlG
  go_wp2_with fail
  refine (heldRecS_c _ _ _ 1 _ (SlR.of_own hG10) (by omega) (by omega)).mono ?_
  rintro e w11 ⟨rfl, hb11⟩
  have hW := own_bel hW hb11
  have hG := own_bel hG10 hb11
  have hbE := bel_nx hbD hb11
  have k1 : (0 : Int) ≤ ((1 + 3 * nG : Nat) : Int) := by omega
  go_wp2_with fail
  refine (toRecS_c _ _ _ l _ (HH.out.bel hbE) (by omega)).mono ?_
  rintro e w12 ⟨A12, c12, rfl, hown12, hb12⟩
  have hW := own_bel hW hb12
  have hG := own_bel hG hb12
  go_wp2_with fail
  refine (implLeaseTake_c _ _ _ l now s o span _ (SlR.of_own hown12) hz hs).mono ?_
  rintro e w13 ⟨AJ, nJ, cJ, rfl, hJ, hb13⟩
  rw [HR.out] at hJ ⊢
  have hW := own_bel hW hb13
  have hG := own_bel hG hb13
  go_wp2_with fail
  refine (eqRecS_c _ _ _ _ _ _ lr lr _ (SlR.of_own hJ) (SlR.of_own hW)).mono ?_
  rintro e w14 ⟨rfl, hb14⟩
  rw [HE.out lr]
  have hG := own_bel hG hb14
  go_wp2_with fail
  refine (heldRecS_c _ _ _ 1 _ (SlR.of_own hG) (by omega) (by omega)).mono ?_
  rintro e w15 ⟨rfl, hb15⟩
  go_wp2_with fail
  go_ret
  exact ⟨rfl, bel_nx (bel_nx (bel_nx (bel_nx hbE hb12) hb13) hb14) hb15⟩

set_option maxRecDepth 100000 in
theorem fnExactLeaseTake_l (os : Os) (started : os.Started) (H : Type) (enc : TypeId × Value → H) :
    ReturnsInHanded {} Try.checked os 4 .any (Rows.fnExactLeaseTakeSpec.pre6 enc Try.prog Try.f4 Rows.fnExactLeaseTakeRow.domain false) (Rows.fnExactLeaseTakeSpec.post enc Try.prog Try.f4 false true false false) := by
  refine returnsInHanded_of_change (C := Try.checked) own started (by kernel_rfl) Try.func4
    (ChangeSpec.witness6 (enc := enc) (C := Try.checked) false ⟨#[], #[.slice none 0 0, .int .i64 0, .string ByteArray.empty, .int .i64 0, .int .i64 0], []⟩ 8 (by kernel_rfl) (by kernel_rfl) (by kernel_rfl) (by kernel_rfl)) ?_
  intro W base args ds gs before hval0 hW hcnd _
  have hval : ∀ (j : Nat) t v, Try.f4.params[j]? = some t → args[j]? = some v → Value.okWide Try.prog W .any base t v := hval0
  have hW' := hW
  obtain ⟨p, q, hA0, hV, rfl, hfz, hnd⟩ := hW
  have hA : DataW.TrodAll enc Try.prog W 0 (fun _ => true) true Try.f4.params.toList args.toList ds p := hA0
  rw [Try.params4] at hA hval
  obtain ⟨v0, vs0, d0, ds0, p0, q0, hargs, rfl, rfl, h0, r0⟩ := trodAll_cons hA
  obtain ⟨v1, vs1, d1, ds1, p1, q1, rfl, rfl, rfl, h1, r1⟩ := trodAll_cons r0
  obtain ⟨v2, vs2, d2, ds2, p2, q2, rfl, rfl, rfl, h2, r2⟩ := trodAll_cons r1
  obtain ⟨v3, vs3, d3, ds3, p3, q3, rfl, rfl, rfl, h3, r3⟩ := trodAll_cons r2
  obtain ⟨v4, vs4, d4, ds4, p4, q4, rfl, rfl, rfl, h4, r4⟩ := trodAll_cons r3
  obtain ⟨rfl, rfl, rfl⟩ := trodAll_nil r4
  obtain rfl : args = #[v0, v1, v2, v3, v4] := by cases args; simp_all
  obtain ⟨rfl, rfl⟩ := trodVars_none hV
  have k0 := h0
  have lt0 : ∀ x ∈ p0, x.block < W.heap.size := by obtain ⟨m, hm⟩ := k0; exact DataW.trod_lt m _ _ _ hm
  obtain ⟨A0, n0, c0, rfl⟩ := okWide_slice Try.underlying27 (hval 0 27 v0 rfl rfl)
  obtain ⟨l0, w0, z0⟩ := recs_row h0 (fun _ => rfl)
  have k1 := h1
  have lt1 : ∀ x ∈ p1, x.block < W.heap.size := by obtain ⟨m, hm⟩ := k1; exact DataW.trod_lt m _ _ _ hm
  obtain ⟨x1, rfl, _, _, wx1⟩ := open_int Try.underlying3 (hval 1 3 v1 rfl rfl) h1
  have k2 := h2
  have lt2 : ∀ x ∈ p2, x.block < W.heap.size := by obtain ⟨m, hm⟩ := k2; exact DataW.trod_lt m _ _ _ hm
  obtain ⟨s2, rfl, _, _, ws2⟩ := ChangeMaps.open_string Try.underlying9 (hval 2 9 v2 rfl rfl) h2
  have k3 := h3
  have lt3 : ∀ x ∈ p3, x.block < W.heap.size := by obtain ⟨m, hm⟩ := k3; exact DataW.trod_lt m _ _ _ hm
  obtain ⟨x3, rfl, _, _, wx3⟩ := open_int Try.underlying3 (hval 3 3 v3 rfl rfl) h3
  have k4 := h4
  have lt4 : ∀ x ∈ p4, x.block < W.heap.size := by obtain ⟨m, hm⟩ := k4; exact DataW.trod_lt m _ _ _ hm
  obtain ⟨x4, rfl, _, _, wx4⟩ := open_int Try.underlying3 (hval 4 3 v4 rfl rfl) h4
  clear hA0 hval0
  refine (exactLeaseTake_w A0 n0 c0 l0 x1 s2 x3 x4 W w0 z0 (by unfold maxLen at ws2; omega)).mono fun e W' ⟨he, bel⟩ => ?_
  subst he
  exact ⟨_, rfl, _, _, _, [], _, [], hW', trodAll_mk1 (shut_bool Try.underlying4 _), (trodAll_cons_mk (Below.trod laidOut (by kernel_rfl) (of_decide_eq_true (by kernel_rfl)) k0 bel lt0) (trodAll_cons_mk (Below.trod laidOut (by kernel_rfl) (of_decide_eq_true (by kernel_rfl)) k1 bel lt1) (trodAll_cons_mk (Below.trod laidOut (by kernel_rfl) (of_decide_eq_true (by kernel_rfl)) k2 bel lt2) (trodAll_cons_mk (Below.trod laidOut (by kernel_rfl) (of_decide_eq_true (by kernel_rfl)) k3 bel lt3) (trodAll_cons_mk (Below.trod laidOut (by kernel_rfl) (of_decide_eq_true (by kernel_rfl)) k4 bel lt4) trodAll_mk0))))), rfl, bel.frame _, fun h => by cases h⟩

theorem fnExactLeaseTake_holds : Rows.FnExactLeaseTakeSaid :=
  OpenClaim.holds_of_wide 4 Try.f4 rfl rfl rfl rfl rfl rfl rfl ⟨rfl, rfl, rfl, rfl, rfl⟩ rfl rfl rfl rfl rfl (by kernel_rfl) Try.func4 (by kernel_rfl)
    (of_decide_eq_true (by kernel_rfl)) (by unfold Func.isWrapper; first | (rw [if_pos (by decide +kernel)]; kernel_rfl) | (rw [if_neg (by decide +kernel)]; exact ⟨rfl, rfl⟩))
    (fun os started H enc _ => fnExactLeaseTake_l os started H enc)
#print axioms fnExactLeaseTake_holds

end Go.Proofs.Ythkgechljfjpdaa
