/- For every code that an inbox is drawn from: a valid inbox with the next number among the early ones is invalid, and without any it is valid. No conditions. -/
import Derived.Test.YtdcojlbekpcejaaInboxSame
import Derived.Test.YtdcojlbekpcejaaLift
import Derived.RegionTactic
namespace Go.Proofs.Ytdcojlbekpcejaa
open Go.ChangeShapes Go.WideShapes Go.ChangeAt Go.RowKit Go.Joins

theorem lit1_own (W : World) (z : Int) {B : Nat} (hB : B ≤ W.heap.size) : (W.alloc (.cells #[.int .i64 z] 3)).ownsRow B 3 1 (.slice (some ⟨W.heap.size, 0, none⟩) 1 1) 1 [.int .i64 z] :=
  ownsRow_base (World.ownsRow_lit (size := 1) (e := 3) W #[.int .i64 z] 1 (Nat.le_refl _) (by unfold maxLen; omega) rfl) hB
theorem inb_next {a : Int} {l : List Int} : inbB a ((a + 1) :: l) = false := by
  cases h : inbB a ((a + 1) :: l)
  · rfl
  · have := ((inb_iff.1 h).2.2.2.1 (a + 1) (by simp)).1; omega
theorem inb_none {a : Int} {l : List Int} (h : inbB a l = true) : inbB a [] = true := by
  obtain ⟨h0, h1, _⟩ := inb_iff.1 h
  exact inb_iff.2 ⟨h0, h1, by simp, by simp, List.Pairwise.nil⟩

set_option maxRecDepth 20000 in
set_option maxHeartbeats 4000000 in
theorem fnInboxPart_w (A : Option Addr) (n c : Nat) (zs : List Int) (w : World) (h : IsRow .u8 w A n c zs) : Calls Try.prog 3 #[.slice A n c] w fun e w' => e = .returned (.bool true) ∧ Below w.heap.size w w' := by
  obtain ⟨i0, hi0, hz0, hz1, hz2⟩ := info_parts int_info
  obtain ⟨l1, l2⟩ := row_len h
  by_cases hn : 1048576 < n
  · go_enter Try.func3, Try.ntmps3
    go_wp2_with fail
    go_ret
    exact ⟨rfl, Below.refl _ _⟩
  have g1 : (n : Int) ≤ 1048576 := by omega
  clear hn
  go_enter Try.func3, Try.ntmps3
  go_wp2_with fail
  refine (drawInboxValid_c A n c zs _ h).mono ?_
  rintro e w1 ⟨a, B, m, d, l, rfl, hs, hm, ha1, ha2, hb1⟩
  have hW := hb1
  clear hb1
  go_wp2_with fail
  have hs := hs.al (.cells #[.int .i64 a, .slice B m d] 25)
  have hW := bel_al hW (.cells #[.int .i64 a, .slice B m d] 25)
  have kb := Blk.new w1 25 #[.int .i64 a, .slice B m d]
  refine (implInboxValid_c a B m d l _ hs (by omega) (by omega)).mono ?_
  rintro e w2 ⟨rfl, hb2⟩
  have hs := hs.bel hb2
  have kb := kb.bel hb2
  have hW := bel_nx hW hb2
  have c_kb := kb.cell
  have f_kb := kb.frozen
  clear hb2
  go_wp2_with fail
  refine (specInboxValid_c a B m d l _ hs (by omega) (by omega)).mono ?_
  rintro e w3 ⟨rfl, hb3⟩
  have hs := hs.bel hb3
  have kb := kb.bel hb3
  have hW := bel_nx hW hb3
  have c_kb := kb.cell
  have f_kb := kb.frozen
  clear hb3
  cases hv : inbB a l
  · clear hv
    go_wp2_with fail
    go_ret
    exact ⟨rfl, hW⟩
  have HN := Lib.hid (inb_none hv)
  obtain ⟨ha0, ha9, _⟩ := inb_iff.1 hv
  clear hv
  have hwa : IntKind.i64.wrap (a + 1) = a + 1 := by rw [IntKind.wrap_i64]; omega
  have hcap := hs.cap
  have hmax := hs.max
  have hgl := kb.lt
  have hsz := hW.size
  go_wp2_with fail
  go_cut [6] (fun p wc => ∃ (q : Nat) (A1 : Option Addr) (k1 c1 : Nat), p = .pointer (some ⟨q, 0, none⟩) ∧ Blk wc q 25 #[.int .i64 a, .slice A1 k1 c1] ∧ SlI wc A1 k1 c1 ((a + 1) :: l) ∧ Below w.heap.size w wc ∧ Blk wc w1.heap.size 25 #[.int .i64 a, .slice B m d])
  case first =>
    go_region_held3 (fun w' => w'.cell? ⟨w1.heap.size, 0, none⟩ = some (.int .i64 a) ∧ w'.cell? ⟨w1.heap.size, 1, none⟩ = some (.slice B m d)) (first | exact ⟨c_kb 0, c_kb 1⟩ | exact ⟨(kb.al _).cell 0, (kb.al _).cell 1⟩ | exact ⟨(kb.dr.al _).cell 0, (kb.dr.al _).cell 1⟩ | exact ⟨((kb.al _).al _).cell 0, ((kb.al _).al _).cell 1⟩ | exact ⟨((kb.dr.al _).al _).cell 0, ((kb.dr.al _).al _).cell 1⟩ | exact ⟨(kb5).cell 0, (kb5).cell 1⟩ | exact ⟨(kb5.al _).cell 0, (kb5.al _).cell 1⟩ | exact ⟨((kb5.far (by simp; omega) _).far (by simp; omega) _).cell 0, ((kb5.far (by simp; omega) _).far (by simp; omega) _).cell 1⟩ | exact ⟨(((kb5.al _).far (by simp; omega) _).far (by simp; omega) _).cell 0, (((kb5.al _).far (by simp; omega) _).far (by simp; omega) _).cell 1⟩) ((first
      | (refine step_append_sl (enc := encI) (by rfl) _ _ 23 (by rfl) w3.heap.size 3 i0 (.int .i64 0) 1 8 Try.underlying23 hi0 hz0 hz1 hz2 rfl (by decide) (.slice (some ⟨w3.heap.size, 0, none⟩) 1 1) 1 [.int .i64 (a + 1)] (by rfl) (by first | exact lit1_own w3 (a + 1) (Nat.le_refl _) | exact (lit1_own w3 (a + 1) (Nat.le_refl _)).alloc _ | exact lit1_own w3.drew (a + 1) (Nat.le_refl _) | exact (lit1_own w3.drew (a + 1) (Nat.le_refl _)).alloc _) B m d l (by rfl) (fun _ => rfl) (by first | exact hs.al _ | exact (hs.al _).dr | exact hs.dr.al _ | exact (hs.al _).al _ | exact ((hs.al _).al _).dr | exact (hs.dr.al _).al _) one_I (by unfold maxLen; omega) (by omega) (by first | (simp; done) | (simp; omega)) ?_; intro v5 w5 ho5 hg5 hl5; obtain ⟨A5, c5, rfl⟩ := own_form ho5; rw [flat_encI] at ho5; have kb5 := Blk.gr (by first | exact kb.al _ | exact (kb.al _).al _ | exact kb.dr.al _ | exact (kb.dr.al _).al _) hg5 (by simp [Value.ownBlock]; omega); have cb5 := kb5.cell; try (have kg5 := Blk.gr (by first | exact (Blk.new w3 25 #[.int .i64 0, .slice none 0 0]).al _ | exact Blk.new (w3.alloc (.cells #[.int .i64 (a + 1)] 3)) 25 #[.int .i64 0, .slice none 0 0] | exact (Blk.new w3.drew 25 #[.int .i64 0, .slice none 0 0]).al _ | exact Blk.new (w3.drew.alloc (.cells #[.int .i64 (a + 1)] 3)) 25 #[.int .i64 0, .slice none 0 0]) hg5 (by simp [Value.ownBlock]); (try simp only [World.alloc, Array.size_push] at kg5); have cg5 := kg5.cell; have fg5 := kg5.frozen))
      | (refine step_append_sl (enc := encI) (by rfl) _ _ 23 (by rfl) w3.heap.size 3 i0 (.int .i64 0) 1 8 Try.underlying23 hi0 hz0 hz1 hz2 rfl (by decide) (.slice (some ⟨w3.heap.size + 1, 0, none⟩) 1 1) 1 [.int .i64 (a + 1)] (by rfl) (by have hh := lit1_own (w3.alloc (.cells #[.int .i64 0, .slice none 0 0] 25)) (a + 1) (B := w3.heap.size) (by simp); simp only [World.alloc, Array.size_push] at hh; exact hh) B m d l (by rfl) (fun _ => rfl) (by first | exact hs.al _ | exact (hs.al _).dr | exact hs.dr.al _ | exact (hs.al _).al _ | exact ((hs.al _).al _).dr | exact (hs.dr.al _).al _) one_I (by unfold maxLen; omega) (by omega) (by first | (simp; done) | (simp; omega)) ?_; intro v5 w5 ho5 hg5 hl5; obtain ⟨A5, c5, rfl⟩ := own_form ho5; rw [flat_encI] at ho5; have kb5 := Blk.gr (by first | exact kb.al _ | exact (kb.al _).al _ | exact kb.dr.al _ | exact (kb.dr.al _).al _) hg5 (by simp [Value.ownBlock]; omega); have cb5 := kb5.cell; try (have kg5 := Blk.gr (by first | exact (Blk.new w3 25 #[.int .i64 0, .slice none 0 0]).al _ | exact Blk.new (w3.alloc (.cells #[.int .i64 (a + 1)] 3)) 25 #[.int .i64 0, .slice none 0 0] | exact (Blk.new w3.drew 25 #[.int .i64 0, .slice none 0 0]).al _ | exact Blk.new (w3.drew.alloc (.cells #[.int .i64 (a + 1)] 3)) 25 #[.int .i64 0, .slice none 0 0]) hg5 (by simp [Value.ownBlock]); (try simp only [World.alloc, Array.size_push] at kg5); have cg5 := kg5.cell; have fg5 := kg5.frozen))))
    all_goals (go_wp2_with fail; go_meet)
    all_goals case rel =>
      have hz5 := hg5.size
      simp at hz5
      have ho6 : w5.ownsRow w3.heap.size 3 1 (.slice A5 (1 + m) c5) (1 + m) (((a + 1) :: l).map (Value.int .i64)) := by simpa using ho5
      have hb5 : Below w.heap.size w w5 := by
        first
          | exact Below.grown (bel_al hW _) hg5 (by simp; omega) (fun j hj => by simp [Value.ownBlock] at hj; omega)
          | exact Below.grown (bel_dr (bel_al hW _)) hg5 (by simp; omega) (fun j hj => by simp [Value.ownBlock] at hj; omega)
          | exact Below.grown (bel_al (bel_dr hW) _) hg5 (by simp; omega) (fun j hj => by simp [Value.ownBlock] at hj; omega)
          | exact Below.grown (bel_al (bel_al hW _) _) hg5 (by simp; omega) (fun j hj => by simp [Value.ownBlock] at hj; omega)
          | exact Below.grown (bel_dr (bel_al (bel_al hW _) _)) hg5 (by simp; omega) (fun j hj => by simp [Value.ownBlock] at hj; omega)
          | exact Below.grown (bel_al (bel_al (bel_dr hW) _) _) hg5 (by simp; omega) (fun j hj => by simp [Value.ownBlock] at hj; omega)
      first
        | exact ⟨w5.heap.size, A5, 1 + m, c5, rfl, Blk.new w5 25 #[.int .i64 a, .slice A5 (1 + m) c5], (SlI.of_own ho6).al _, bel_al hb5 _, kb5.al _⟩
        | exact ⟨w3.heap.size, A5, 1 + m, c5, rfl, by simpa using (kg5.set_ 0 (.int .i64 a)).set_ 1 (.slice A5 (1 + m) c5), SlI.of_own (own_cell (own_cell ho6 kg5 (by decide) 0 _) (kg5.set_ 0 (.int .i64 a)) (by decide) 1 _), bel_set (bel_set hb5 (by simp; omega) _) (by simp; omega) _, (kb5.far (by simp; omega) _).far (by simp; omega) _⟩
        | exact ⟨w3.heap.size + 1, A5, 1 + m, c5, rfl, by simpa using (kg5.set_ 0 (.int .i64 a)).set_ 1 (.slice A5 (1 + m) c5), SlI.of_own (own_cell (own_cell ho6 kg5 (by decide) 0 _) (kg5.set_ 0 (.int .i64 a)) (by decide) 1 _), bel_set (bel_set hb5 (by simp; omega) _) (by simp; omega) _, (kb5.far (by simp; omega) _).far (by simp; omega) _⟩
  case rest =>
    obtain ⟨q, A1, k1, c1, rfl, kq, hs1, hW, kb⟩ := hcut
    have c_kb := kb.cell
    have f_kb := kb.frozen
    have c_kq := kq.cell
    have f_kq := kq.frozen
    have HF := Lib.hid (inb_next (a := a) (l := l))
    go_wp2_with fail
    refine (implInboxValid_c a A1 k1 c1 _ _ hs1 (by omega) (by omega)).mono ?_
    rw [HF.out]
    rintro e w6 ⟨rfl, hb6⟩
    have kb := kb.bel hb6
    have hW := bel_nx hW hb6
    have c_kb := kb.cell
    have f_kb := kb.frozen
    go_wp2_with fail
    refine (implInboxValid_c a none 0 0 [] _ (Sl.nil_ _ _ _) (by omega) (by omega)).mono ?_
    rw [HN.out]
    rintro e w7 ⟨rfl, hb7⟩
    go_wp2_with fail
    go_ret
    exact ⟨rfl, bel_nx hW hb7⟩

set_option maxRecDepth 100000 in
theorem fnInboxPart_l (os : Os) (started : os.Started) (H : Type) (enc : TypeId × Value → H) :
    ReturnsInHanded {} Try.checked os 3 .any (Rows.fnInboxPartSpec.pre6 enc Try.prog Try.f3 Rows.fnInboxPartRow.domain false) (Rows.fnInboxPartSpec.post enc Try.prog Try.f3 false true false false) := by
  refine returnsInHanded_of_change (C := Try.checked) own started (by kernel_rfl) Try.func3
    (ChangeSpec.witness6 (enc := enc) (C := Try.checked) false ⟨#[], #[.slice none 0 0], []⟩ 8 (by kernel_rfl) (by kernel_rfl) (by kernel_rfl) (by kernel_rfl)) ?_
  intro W base args ds gs before hval0 hW hcnd _
  have hval : ∀ (j : Nat) t v, Try.f3.params[j]? = some t → args[j]? = some v → Value.okWide Try.prog W .any base t v := hval0
  have hW' := hW
  obtain ⟨p, q, hA0, hV, rfl, hfz, hnd⟩ := hW
  have hA : DataW.TrodAll enc Try.prog W 0 (fun _ => true) true Try.f3.params.toList args.toList ds p := hA0
  rw [Try.params3] at hA hval
  obtain ⟨v0, vs0, d0, ds0, p0, q0, hargs, rfl, rfl, h0, r0⟩ := trodAll_cons hA
  obtain ⟨rfl, rfl, rfl⟩ := trodAll_nil r0
  obtain rfl : args = #[v0] := by cases args; simp_all
  obtain ⟨rfl, rfl⟩ := trodVars_none hV
  have k0 := h0
  have lt0 : ∀ x ∈ p0, x.block < W.heap.size := by obtain ⟨m, hm⟩ := k0; exact DataW.trod_lt m _ _ _ hm
  obtain ⟨A0, n0, c0, rfl⟩ := okWide_slice Try.underlying22 (hval 0 22 v0 rfl rfl)
  obtain ⟨z0, w0⟩ := bytes_row h0 (fun _ => rfl)
  clear hA0 hval0
  refine (fnInboxPart_w A0 n0 c0 z0 W w0).mono fun e W' ⟨he, bel⟩ => ?_
  subst he
  exact ⟨_, rfl, _, _, _, [], _, [], hW', trodAll_mk1 (shut_bool Try.underlying4 _), (trodAll_cons_mk (Below.trod laidOut (by kernel_rfl) (of_decide_eq_true (by kernel_rfl)) k0 bel lt0) trodAll_mk0), rfl, bel.frame _, fun h => by cases h⟩

theorem fnInboxPart_holds : Rows.FnInboxPartSaid :=
  OpenClaim.holds_of_wide 3 Try.f3 rfl rfl rfl rfl rfl rfl rfl ⟨rfl, rfl, rfl, rfl, rfl⟩ rfl rfl rfl rfl rfl (by kernel_rfl) Try.func3 (by kernel_rfl)
    (of_decide_eq_true (by kernel_rfl)) (by unfold Func.isWrapper; first | (rw [if_pos (by decide +kernel)]; kernel_rfl) | (rw [if_neg (by decide +kernel)]; exact ⟨rfl, rfl⟩))
    (fun os started H enc _ => fnInboxPart_l os started H enc)
#print axioms fnInboxPart_holds

end Go.Proofs.Ytdcojlbekpcejaa
