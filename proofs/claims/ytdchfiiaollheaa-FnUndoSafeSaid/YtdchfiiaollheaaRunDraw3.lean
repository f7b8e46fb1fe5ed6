/- The draw of a run: l91Run, l91Both. -/
import Derived.Test.YtdchfiiaollheaaRunDraw2
import Derived.Test.YtdchfiiaollheaaFlowDraw
namespace Go.Proofs.Ytdchfiiaollheaa
open Go.RowKit

theorem readyR_names {v : Int} {l : List Stp} {done : List ByteArray} {x : ByteArray} (h : x ∈ readyR v l done) : x ∈ namesP l := by
  unfold readyR at h
  split at h
  · obtain ⟨p, hp, hpx, _⟩ := readyP_mem h
    exact List.mem_map.2 ⟨p, hp, hpx⟩
  · cases h

/-- What a step of the draw reads: the flow's box, the run's box, the names of the steps that can be done. -/
abbrev Lim (F K g : Nat) (v : Int) (A : Option Addr) (n c : Nat) (st : Int) (G : Option Addr) (gn gc xn : Nat) (X : Nat → ByteArray) (w' : World) : Prop :=
  w'.cell? ⟨F, 0, none⟩ = some (.int .i64 v) ∧ w'.cell? ⟨F, 1, none⟩ = some (.slice A n c) ∧ w'.cell? ⟨K, 0, none⟩ = some (.int .i64 st) ∧ w'.cell? ⟨K, 1, none⟩ = some (.slice G gn gc) ∧ ∀ p, p < xn → w'.cell? ⟨g, p, none⟩ = some (.string (X p))
section
variable {F K g : Nat} {v : Int} {A : Option Addr} {n c : Nat} {st : Int} {G : Option Addr} {gn gc xn : Nat} {X : Nat → ByteArray} {w w' : World} {R : Nat}
theorem Lim.dr (h : Lim F K g v A n c st G gn gc xn X w) : Lim F K g v A n c st G gn gc xn X w.drew := h
theorem Lim.al (h : Lim F K g v A n c st G gn gc xn X w) (o : Obj) : Lim F K g v A n c st G gn gc xn X (w.alloc o) :=
  ⟨cell_al h.1 o, cell_al h.2.1 o, cell_al h.2.2.1 o, cell_al h.2.2.2.1 o, fun p hp => cell_al (h.2.2.2.2 p hp) o⟩
theorem Lim.bel (h : Lim F K g v A n c st G gn gc xn X w) (hb : Below w.heap.size w w') : Lim F K g v A n c st G gn gc xn X w' :=
  ⟨cell_on hb h.1, cell_on hb h.2.1, cell_on hb h.2.2.1, cell_on hb h.2.2.2.1, fun p hp => cell_on hb (h.2.2.2.2 p hp)⟩
theorem Lim.gr (h : Lim F K g v A n c st G gn gc xn X w) (hg : w.grownBy w' (some R)) (hF : F ≠ R) (hK : K ≠ R) (hX : g ≠ R) : Lim F K g v A n c st G gn gc xn X w' :=
  ⟨cell_gr hg h.1 hF, cell_gr hg h.2.1 hF, cell_gr hg h.2.2.1 hK, cell_gr hg h.2.2.2.1 hK, fun p hp => cell_gr hg (h.2.2.2.2 p hp) hX⟩
theorem Lim.sto (h : Lim F K g v A n c st G gn gc xn X w) {a : Addr} (hF : F ≠ a.block) (hK : K ≠ a.block) (hX : g ≠ a.block) (u : Value) : Lim F K g v A n c st G gn gc xn X (w.setCell a u) :=
  ⟨cell_st h.1 hF u, cell_st h.2.1 hF u, cell_st h.2.2.1 hK u, cell_st h.2.2.2.1 hK u, fun p hp => cell_st (h.2.2.2.2 p hp) hX u⟩
end
theorem Blk.grs {w w' : World} {g : Nat} {t : TypeId} {cs : Array Value} {R : Nat} (h : Blk w g t cs) (hg : w.grownBy w' (some R)) (hne : g ≠ R) : Blk w' g t cs := h.gr hg (fun e => hne (Option.some.inj e))
abbrev runZ : Array Value := #[.int .i64 0, .slice none 0 0]

set_option maxRecDepth 20000 in
set_option maxHeartbeats 8000000 in
theorem l91Run_c (R q B : Nat) (v : Int) (A : Option Addr) (n c : Nat) (l : List Stp) (w : World) (h : OwnQ w B A n c l) (hRB : R < B) (hz : SzP l) (hn : n ≤ 6) (hrd : Rd w R (q + 20)) : Calls Try.prog 91 #[.pointer (some ⟨R, 0, none⟩), .agg #[.int .i64 v, .slice A n c]] w fun e w' =>
    ∃ (st : Int) (G : Option Addr) (gn gc : Nat) (done : List ByteArray), e = .returned (.agg #[.int .i64 st, .slice G gn gc]) ∧ w'.ownsRow w.heap.size 9 1 (.slice G gn gc) gn (done.map Value.string) ∧ gn ≤ 10 ∧ w.grownBy w' (some R) ∧ Rd w' R q := by
  have hRw := hrd.lt
  obtain ⟨i1, hi1, hy0, hy1, hy2⟩ := info_parts str_info
  have kf := (Blk.new w 25 #[.int .i64 v, .slice A n c]).al (.cells runZ 40)
  have kz := Blk.new (w.alloc (.cells #[.int .i64 v, .slice A n c] 25)) 40 runZ
  rw [show (w.alloc (.cells #[.int .i64 v, .slice A n c] 25)).heap.size = w.heap.size + 1 by simp] at kz
  have hr0 := (hrd.al (.cells #[.int .i64 v, .slice A n c] 25)).al (.cells runZ 40)
  have hg0 := gr_al (gr_al (gr_refl w (some R)) (.cells #[.int .i64 v, .slice A n c] 25)) (.cells runZ 40)
  have ho0 := (h.al (.cells #[.int .i64 v, .slice A n c] 25)).al (.cells runZ 40)
  go_enter Try.func91, Try.ntmps91
  go_wp2_with fail
  refine (specRunNew_c v A n c l _ ho0.read hz (by omega)).mono ?_
  rintro e w1 ⟨D1, dc1, rfl, hD1, hb1⟩
  have kf1 := kf.bel hb1
  have kz1 := kz.bel hb1
  have hr1 := hr0.below hb1
  have hr1R := hr1.lt
  have ho1 := ho0.bel hb1
  have hg1 := gr_bl hg0 hb1
  have hs1 := hb1.size
  have hzl := kz1.lt
  have cf := kf1.cell
  have cz := kz1.cell
  have fz := kz1.frozen
  simp at hs1
  clear kf kz hr0 ho0 hg0 hb1
  cases hv : flowB v l
  · go_wp2_with fail
    have K := ((kz1.set_ 0 (.int .i64 0)).set_ 1 (.slice none 0 0)).al (.cells #[.int .i64 0, .slice D1 0 dc1] 40)
    have cK := K.cell
    refine bodyPost_ret (v := .agg #[.int .i64 0, .slice none 0 0]) (by simp [results, Try.results91, go_sem, cK]) rfl ?_
    go_light
    refine ⟨0, none, 0, 0, [], rfl, World.ownsRow_nil _ _ _ _, by omega, ?_, ?_⟩
    · exact gr_al (gr_set (gr_set hg1 (by simp) _) (by simp) _) _
    · exact (((hr1.set_ (by simp; omega) _).set_ (by simp; omega) _).al _).less (by omega)
  · have HV := Lib.hid hv
    clear hv
    go_wp2_with fail
    refine (pick_c R (q + 19) _ _ (hr1.al _)).mono ?_
    rintro e w4 ⟨v4, rfl, ⟨a4, b4, _⟩, hg4, hr4⟩
    have b4 := b4 (by omega)
    obtain ⟨m, rfl⟩ := Int.eq_ofNat_of_zero_le a4
    have hKR : w1.heap.size ≠ R := by omega
    have kK := blk_new_gr (g := w1.heap.size) hg4 rfl hKR
    have kf4 := (kf1.al (.cells #[.int .i64 0, .slice D1 0 dc1] 40)).grs hg4 (by omega)
    have kz4 := (kz1.al (.cells #[.int .i64 0, .slice D1 0 dc1] 40)).grs hg4 (by omega)
    have ho4 := (ho1.al (.cells #[.int .i64 0, .slice D1 0 dc1] 40)).gr hg4 hRB
    have hD4 := own_gr ((ownsRow_base (B' := w.heap.size + 2) hD1 (by simp)).alloc (.cells #[.int .i64 0, .slice D1 0 dc1] 40)) hg4 (by omega)
    have hg04 := gr_nx (gr_al hg1 (.cells #[.int .i64 0, .slice D1 0 dc1] 40)) hg4
    clear kf1 kz1 hr1 ho1 hD1 cf cz fz
    go_wp2_with fail
    go_loopw [8] (fun iv wr => ∃ (i : Nat) (st : Int) (G : Option Addr) (gn gc : Nat) (done : List ByteArray), i ≤ m ∧ iv = .int .i64 (i : Int) ∧ gn ≤ i ∧ Blk wr w1.heap.size 40 #[.int .i64 st, .slice G gn gc] ∧ wr.ownsRow (w.heap.size + 2) 9 1 (.slice G gn gc) gn (done.map Value.string) ∧ Hid (∀ x ∈ done, x ∈ namesP l) ∧ Blk wr w.heap.size 25 #[.int .i64 v, .slice A n c] ∧ Blk wr (w.heap.size + 1) 40 runZ ∧ OwnQ wr B A n c l ∧ Rd wr R (q + 4 + (m - i)) ∧ w.grownBy wr (some R)) (fun iv _ => m - (intOf iv).toNat)
    case atStart => exact ⟨0, 0, D1, 0, dc1, [], by omega, rfl, by omega, kK, hD4, Lib.hid (fun x hx => by cases hx), kf4, kz4, ho4, hr4.less (by omega), hg04⟩
    case round =>
      obtain ⟨i, st, G, gn, gc, done, hi, rfl, hgn, kK, hG, HDN, kfL, kzL, hoL, hrL, hgL⟩ := hrel
      have hKl := kK.lt
      have cK := kK.cell
      have cf := kfL.cell
      by_cases hlt : i < m
      · obtain ⟨f, hf⟩ : ∃ f, q + 4 + (m - i) = f + 1 := ⟨q + 4 + (m - i) - 1, by omega⟩
        rw [hf] at hrL
        have HF := Lib.hid hf
        clear hf
        have k0 : (0 : Int) ≤ (i : Int) := by omega
        have k1 : (i : Int) < (m : Int) := by omega
        go_wp2_with fail
        refine (specFlowReady_c v A n c l G gn gc done _ hoL.read hz (by omega) (SlS.of_own hG)).mono ?_
        rintro e w2 ⟨X, xn, xc, rfl, hX, hxn, hb2⟩
        have kK2 := kK.bel hb2
        have hG2 := own_bel hG hb2
        have kf2 := kfL.bel hb2
        have kz2 := kzL.bel hb2
        have ho2 := hoL.bel hb2
        have hr2 := hrL.below hb2
        have hg2 := gr_bl hgL hb2
        have hs2 := hb2.size
        have cK2 := kK2.cell
        clear kK hG kfL kzL hoL hrL hgL cK cf hb2
        rcases Nat.eq_zero_or_pos xn with hx0 | hx0
        · have dx : decide ((0 : Int) < (xn : Int)) = false := decide_eq_false (by omega)
          have dx' : decide (0 < xn) = false := decide_eq_false (by omega)
          go_wp2_with fail
          go_roundw
          case rel => exact ⟨i + 1, st, G, gn, gc, done, by omega, by go_num, by omega, kK2, hG2, HDN, kf2, kz2, ho2, hr2.less (by have := HF.out; omega), hg2⟩
          case measure => simp [intOf]; omega
        have dx : decide ((0 : Int) < (xn : Int)) = true := decide_eq_true (by omega)
        have dx' : decide (0 < xn) = true := decide_eq_true (by omega)
        by_cases hst : st = 0
        · have es : (st == 0) = true := by simpa using hst
          clear hst
          obtain ⟨g, cap, hA2, hgB, hgl⟩ := hX.form (by omega)
          obtain ⟨rfl, _, rfl⟩ := slice_inj hA2
          have hXl := own_countS hX
          have hXc : ∀ p, p < xn → w2.cell? ⟨g, p, none⟩ = some (.string ((readyR v l done).getD p ⟨#[]⟩)) := fun p hp => by
            rw [hX.cellAt p (by omega), List.getElem?_map, List.getD_eq_getElem?_getD, List.getElem?_eq_getElem (by omega)]; rfl
          have hXn : ∀ p, p < xn → (readyR v l done).getD p ⟨#[]⟩ ∈ namesP l := fun p hp => readyR_names (by rw [List.getD_eq_getElem?_getD, List.getElem?_eq_getElem (by omega)]; exact List.getElem_mem _)
          obtain ⟨Xf, hXf⟩ : ∃ f : Nat → ByteArray, f = fun p => (readyR v l done).getD p ⟨#[]⟩ := ⟨_, rfl⟩
          have s0 : Lim w.heap.size w1.heap.size g v A n c st G gn gc xn Xf w2 := ⟨kf2.cell 0, kf2.cell 1, kK2.cell 0, kK2.cell 1, by rw [hXf]; exact hXc⟩
          have HXN : Hid (∀ p, p < xn → Xf p ∈ namesP l) := Lib.hid (by rw [hXf]; exact hXn)
          clear hXf hXc hXn hXl
          have hgR : g ≠ R := by omega
          have hFR : w.heap.size ≠ R := by omega
          have hw2 : w1.heap.size < w2.heap.size := kK2.lt
          have n1 : w.heap.size ≠ w2.heap.size := by omega
          have n2 : w1.heap.size ≠ w2.heap.size := by omega
          have n3 : g ≠ w2.heap.size := by omega
          have n4 : w.heap.size + 1 ≠ w2.heap.size := by omega
          go_upto_region 10 with fail
          go_cut [10] (fun v10 wc => ∃ (nb : Nat) (st' : Int) (D : Option Addr) (dn dc : Nat) (done' : List ByteArray), v10 = .pointer (some ⟨nb, 0, none⟩) ∧ Blk wc nb 40 #[.int .i64 st', .slice D dn dc] ∧ wc.ownsRow (w.heap.size + 2) 9 1 (.slice D dn dc) dn (done'.map Value.string) ∧ dn ≤ gn + 1 ∧ Hid (∀ x ∈ done', x ∈ namesP l) ∧ Blk wc w1.heap.size 40 #[.int .i64 st, .slice G gn gc] ∧ Blk wc w.heap.size 25 #[.int .i64 v, .slice A n c] ∧ Blk wc (w.heap.size + 1) 40 runZ ∧ OwnQ wc B A n c l ∧ Rd wc R f ∧ w.grownBy wc (some R) ∧ w1.heap.size < nb)
          case first =>
            have nR2 : w2.heap.size ≠ R := by omega
            have hZR : w.heap.size + 1 ≠ R := by omega
            have hR2 : R < w.heap.size + 2 := by omega
            have hn6 : n ≤ 1048576 := by omega
            have hgn6 : gn ≤ 1048575 := by omega
            clear cK2
            go_region_held3 (fun w' => w'.cell? ⟨w.heap.size, 0, none⟩ = some (.int .i64 v) ∧ w'.cell? ⟨w.heap.size, 1, none⟩ = some (.slice A n c) ∧ w'.cell? ⟨w1.heap.size, 0, none⟩ = some (.int .i64 st) ∧ w'.cell? ⟨w1.heap.size, 1, none⟩ = some (.slice G gn gc) ∧ ∀ p, p < xn → w'.cell? ⟨g, p, none⟩ = some (.string (Xf p))) (first | with_reducible exact s0.dr | with_reducible exact (s0.al _).dr | with_reducible exact s0 | with_reducible exact s0.al _ | with_reducible exact s5 | with_reducible exact s5.al _ | with_reducible exact s5.dr | with_reducible exact (s5.al _).dr | with_reducible exact s6 | with_reducible exact s6.al _ | with_reducible exact (s6.sto n1 n2 n3 _).sto n1 n2 n3 _ | with_reducible exact (s6.sto m1 m2 m3 _).sto m1 m2 m3 _) ((first | (go_at_call 51; refine (pick_c R f _ _ (by repeat' first | with_reducible assumption | with_reducible refine Rd.al ?_ _ | with_reducible refine Rd.dr ?_)).mono ?_; rintro e w5 ⟨v5, rfl, ⟨a5, b5, _⟩, hg5', hr5⟩; have b5 := b5 (by omega); (first | with_reducible have hg5 := first_gr hg5' | have hg5 := hg5'); have h5 : v5.toNat < xn := (by omega); have s5 : Lim w.heap.size w1.heap.size g v A n c st G gn gc xn Xf w5 := (by first | with_reducible exact s0.gr hg5 hFR hKR hgR | with_reducible exact (s0.al _).gr hg5 hFR hKR hgR); have ho5 : OwnQ w5 B A n c l := (by first | with_reducible exact ho2.gr hg5 hRB | with_reducible exact (ho2.al _).gr hg5 hRB); have hG5 : w5.ownsRow (w.heap.size + 2) 9 1 (.slice G gn gc) gn (done.map Value.string) := (by first | with_reducible exact own_gr hG2 hg5 hR2 | with_reducible exact own_gr (hG2.alloc _) hg5 hR2); have kK5 : Blk w5 w1.heap.size 40 #[.int .i64 st, .slice G gn gc] := (by first | with_reducible exact kK2.grs hg5 hKR | with_reducible exact (kK2.al _).grs hg5 hKR); have kf5 : Blk w5 w.heap.size 25 #[.int .i64 v, .slice A n c] := (by first | with_reducible exact kf2.grs hg5 hFR | with_reducible exact (kf2.al _).grs hg5 hFR); have kz5 : Blk w5 (w.heap.size + 1) 40 runZ := (by first | with_reducible exact kz2.grs hg5 hZR | with_reducible exact (kz2.al _).grs hg5 hZR); have hgr5 : w.grownBy w5 (some R) := (by first | with_reducible exact gr_nx hg2 hg5 | with_reducible exact gr_nx (gr_al hg2 _) hg5); have hs5 : w2.heap.size ≤ w5.heap.size := (by have hq := hg5.size; first | exact hq | (simp at hq; omega)); have m1 : w.heap.size ≠ w5.heap.size := (by omega); have m2 : w1.heap.size ≠ w5.heap.size := (by omega); have m3 : g ≠ w5.heap.size := (by omega); first | (with_reducible have kS := blk_new_gr (cs := runZ) (t := 40) (g := w2.heap.size) hg5 rfl nR2; have cS := kS.cell; have fS := kS.frozen) | skip) | (go_at_call 100; refine (specRunDo_c v A n c l st G gn gc done (Xf v5.toNat) _ (by first | with_reducible exact ho5.read | with_reducible exact (ho5.al _).read) hz hn6 (by first | with_reducible exact SlS.of_own hG5 | with_reducible exact SlS.of_own (hG5.alloc _)) hgn6).mono ?_; rintro e w6 ⟨st', D, dn, dc, done', bb, rfl, hD, hdn, hdd, hb6⟩; have s6 : Lim w.heap.size w1.heap.size g v A n c st G gn gc xn Xf w6 := (by first | with_reducible exact s5.bel hb6 | with_reducible exact (s5.al _).bel hb6); have ho6 : OwnQ w6 B A n c l := (by first | with_reducible exact ho5.bel hb6 | with_reducible exact (ho5.al _).bel hb6); have kK6 : Blk w6 w1.heap.size 40 #[.int .i64 st, .slice G gn gc] := (by first | with_reducible exact kK5.bel hb6 | with_reducible exact (kK5.al _).bel hb6); have kf6 : Blk w6 w.heap.size 25 #[.int .i64 v, .slice A n c] := (by first | with_reducible exact kf5.bel hb6 | with_reducible exact (kf5.al _).bel hb6); have kz6 : Blk w6 (w.heap.size + 1) 40 runZ := (by first | with_reducible exact kz5.bel hb6 | with_reducible exact (kz5.al _).bel hb6); have hr6 : Rd w6 R f := (by first | with_reducible exact hr5.below hb6 | with_reducible exact (hr5.al _).below hb6); have hg6 : w.grownBy w6 (some R) := (by first | with_reducible exact gr_bl hgr5 hb6 | with_reducible exact gr_bl (gr_al hgr5 _) hb6); have hs6 : w5.heap.size ≤ w6.heap.size := (by have hq := hb6.size; first | exact hq | (simp at hq; omega)); have hD6 : w6.ownsRow (w.heap.size + 2) 9 1 (.slice D dn dc) dn (done'.map Value.string) := ownsRow_base hD (by first | omega | (simp; omega)); first | (with_reducible have kS6 := (Blk.new w5 40 runZ).bel hb6; have cS6 := kS6.cell; have fS6 := kS6.frozen) | (have kS6 := kS.bel hb6; have cS6 := kS6.cell; have fS6 := kS6.frozen) | skip)))
            all_goals
              go_wp2_with fail
              go_meet
              go_light
              have HDD : Hid (∀ x ∈ done', x ∈ namesP l) := Lib.hid (fun x hx => by
                rcases hdd x hx with h1 | h1
                · exact HDN.out x h1
                · rw [h1]; exact HXN.out _ h5)
              first
                | exact ⟨w6.heap.size, st', D, dn, dc, done', rfl, Blk.new _ _ _, hD6.alloc _, hdn, HDD, kK6.al _, kf6.al _, kz6.al _, ho6.al _, hr6.al _, gr_al hg6 _, by omega⟩
                | exact ⟨w2.heap.size, st', D, dn, dc, done', rfl, (kS6.set_ 0 (.int .i64 st')).set_ 1 (.slice D dn dc), own_cell2 hD6 kS6 (by decide), hdn, HDD, (kK6.far n2 _).far n2 _, (kf6.far n1 _).far n1 _, (kz6.far n4 _).far n4 _, (ho6.blk kS6 (by decide) (by decide) (gr_cell _ _ _ _)).blk (kS6.set_ 0 _) (by decide) (by decide) (gr_cell _ _ _ _), (hr6.set_ (by simp; omega) _).set_ (by simp; omega) _, gr_set (gr_set hg6 (by simp; omega) _) (by simp; omega) _, by omega⟩
                | exact ⟨w5.heap.size, st', D, dn, dc, done', rfl, (kS6.set_ 0 (.int .i64 st')).set_ 1 (.slice D dn dc), own_cell2 hD6 kS6 (by decide), hdn, HDD, (kK6.far m2 _).far m2 _, (kf6.far m1 _).far m1 _, (kz6.far (by simp; omega) _).far (by simp; omega) _, (ho6.blk kS6 (by decide) (by decide) (gr_cell _ _ _ _)).blk (kS6.set_ 0 _) (by decide) (by decide) (gr_cell _ _ _ _), (hr6.set_ (by simp; omega) _).set_ (by simp; omega) _, gr_set (gr_set hg6 (by simp; omega) _) (by simp; omega) _, by omega⟩
          case rest =>
            obtain ⟨nb, st', D, dn, dc, done', rfl, kN, hD, hdn, HDD, kKc, kfC, kzC, hoC, hrC, hgC, hnb⟩ := hcut
            have cN := kN.cell
            have cKc := kKc.cell
            have fKc := kKc.frozen
            clear cK2
            go_wp2_with fail
            go_roundw
            case rel =>
              go_light
              have kK5 := (kKc.set_ 0 (.int .i64 st')).set_ 1 (.slice D dn dc)
              refine ⟨i + 1, st', D, dn, dc, done', by omega, by go_num, by omega, by simpa using kK5, own_cell2 hD kKc (by decide), HDD, (kfC.far (by simp; omega) _).far (by simp; omega) _, (kzC.far (by simp; omega) _).far (by simp; omega) _, (hoC.blk kKc (by decide) (by decide) (gr_cell _ _ _ _)).blk (kKc.set_ 0 _) (by decide) (by decide) (gr_cell _ _ _ _), ?_, gr_set (gr_set hgC (by simp; omega) _) (by simp; omega) _⟩
              exact ((hrC.set_ (by simp; omega) _).set_ (by simp; omega) _).less (by have := HF.out; omega)
            case measure => simp [intOf]; omega
        · have es : (st == 0) = false := by simpa using hst
          clear hst
          go_wp2_with fail
          go_roundw
          case rel => exact ⟨i + 1, st, G, gn, gc, done, by omega, by go_num, by omega, kK2, hG2, HDN, kf2, kz2, ho2, hr2.less (by have := HF.out; omega), hg2⟩
          case measure => simp [intOf]; omega
      · have him : i = m := by omega
        subst him
        have hrL := hrL.less (q' := q + 4) (by omega)
        have hgn8 : gn ≤ 8 := by omega
        have hsL := hgL.size
        by_cases hst : st = 0
        · have es : (st == 0) = true := by simpa using hst
          clear hst
          go_wp2_with fail
          refine (pick_c R (q + 3) _ _ hrL).mono ?_
          rintro e w5 ⟨v5, rfl, _, hg5, hr5⟩
          have kK5 := kK.grs hg5 hKR
          have kf5 := kfL.grs hg5 (by omega)
          have kz5 := kzL.grs hg5 (by omega)
          have hG5 := own_gr hG hg5 (by omega)
          have ho5 := hoL.gr hg5 hRB
          have hg5 := gr_nx hgL hg5
          have hs5 := hg5.size
          have hlz5 := kz5.lt
          have cK5 := kK5.cell
          have cf5 := kf5.cell
          clear cK cf hr4
          by_cases h5 : v5 = 0
          · have e5 : (v5 == 0) = true := by simpa using h5
            clear h5
            go_wp2_with fail
            refine (l3Back_c v A n c l G gn gc done _ ho5.read (SlS.of_own hG5) (by omega) HDN.out).mono ?_
            rintro e w6 ⟨st6, D6, dc6, rfl, hD6, hb6⟩
            have kK6 := kK5.bel hb6
            have hlK := kK6.lt
            have fK6 := kK6.frozen
            have cK6 := kK6.cell
            clear cK5 cf5
            go_wp2_with fail
            obtain ⟨wT, hwT⟩ : ∃ wT, wT = ((w6.setCell ⟨w1.heap.size, 0, none⟩ (.int .i64 st6)).setCell ⟨w1.heap.size, 1, none⟩ (.slice D6 gn dc6)) := ⟨_, rfl⟩
            have kT : Blk wT w1.heap.size 40 #[.int .i64 st6, .slice D6 gn dc6] := by rw [hwT]; exact (kK6.set_ 0 _).set_ 1 _
            have hGT : wT.ownsRow (w.heap.size + 2) 9 1 (.slice D6 gn dc6) gn (done.map Value.string) := by rw [hwT]; exact own_cell2 (ownsRow_base hD6 (by omega)) kK6 (by decide)
            have kzT : Blk wT (w.heap.size + 1) 40 runZ := by rw [hwT]; exact ((kz5.bel hb6).far (by simp; omega) _).far (by simp; omega) _
            have hrT : Rd wT R (q + 3) := by rw [hwT]; exact ((hr5.below hb6).set_ (by simp; omega) _).set_ (by simp; omega) _
            have hgT : w.grownBy wT (some R) := by rw [hwT]; exact gr_set (gr_set (gr_bl hg5 hb6) (by simp; omega) _) (by simp; omega) _
            rw [← hwT]
            clear hwT kK6 hD6 kz5 hr5 hg5 fK6 cK6 hb6
            refine (pick_c R (q + 2) _ _ hrT).mono ?_
            rintro e w7 ⟨v7, rfl, _, hg7, hr7⟩
            have k7 := kT.grs hg7 hKR
            have kz7 := kzT.grs hg7 (by omega)
            have hG7 := own_gr hGT hg7 (by omega)
            have hgr7 := gr_nx hgT hg7
            have hs7 := hgr7.size
            have hl7 := k7.lt
            have c7 := k7.cell
            have f7 := k7.frozen
            have cz7 := kz7.cell
            have fz7 := kz7.frozen
            by_cases h0 : v7 = 0
            · have e0 : (v7 == 0) = true := by simpa using h0
              clear h0
              go_wp2_with fail
              refine (pick_c R (q + 1) _ _ hr7).mono ?_
              rintro e w8 ⟨v8, rfl, ⟨a8, b8, _⟩, hg8, hr8⟩
              have k8 := k7.grs hg8 hKR
              have kz8 := kz7.grs hg8 (by omega)
              have hG8 := own_gr hG7 hg8 (by omega)
              have hgr8 := gr_nx hgr7 hg8
              have c8 := k8.cell
              have f8 := k8.frozen
              have cz8 := kz8.cell
              have fz8 := kz8.frozen
              clear c7 f7 cz7 fz7
              have hwv : IntKind.i64.wrap (v8 - 1) = v8 - 1 := by rw [IntKind.wrap_i64]; have := b8 (by omega); omega
              go_wp2_with fail
              have kzF := kz8.far (p := ⟨w1.heap.size, 0, none⟩) (by simp; omega) (.int .i64 (v8 - 1))
              have K := (kzF.set_ 0 (.int .i64 (v8 - 1))).set_ 1 (.slice D6 gn dc6)
              have cF := K.cell
              refine bodyPost_ret (v := .agg #[.int .i64 (v8 - 1), .slice D6 gn dc6]) (by simp [results, Try.results91, go_sem, cF]) rfl ?_
              go_light
              exact ⟨_, _, _, _, done, rfl, ownsRow_base (own_cell2 (hG8.kept (gr_cell _ _ _ _) (.inr (own_ne_blk hG8 k8 (by decide)))) kzF (by decide)) (by omega), by omega, gr_set (gr_set (gr_set hgr8 (by simp; omega) _) (by simp) _) (by simp) _, (((hr8.set_ (by simp; omega) _).set_ (by simp; omega) _).set_ (by simp; omega) _).less (by omega)⟩
            · have e0 : (v7 == 0) = false := by simpa using h0
              clear h0
              by_cases h1 : v7 = 1
              · have e1 : (v7 == 1) = true := by simpa using h1
                clear h1
                have hnK := own_ne_blk hG7 k7 (by decide)
                have hnZ := own_ne_blk hG7 kz7 (by decide)
                go_wp2_with (at_builtin; refine wpList_append_sl (enc := encS) rfl _ _ 28 rfl (w.heap.size + 2) 9 i1 (.string ByteArray.empty) 1 16 Try.underlying28 hi1 hy0 hy1 hy2 rfl (by decide) (.slice D6 gn dc6) gn (done.map Value.string) rfl (hG7.alloc _) (some ⟨w7.heap.size, 0, none⟩) 1 1 [⟨#[97]⟩] rfl (fun _ => rfl) (Sl.one (Blk.new _ _ _)) one_S (by unfold maxLen; omega) (by omega) (by simp; omega) ?_; intro v9 w9 ho9 hg9 hl9; obtain ⟨A9, c9, rfl⟩ := own_form ho9; rw [flat_encS, ← List.map_append] at ho9; have k9 := (k7.al _).gr hg9 hnK.symm; have kz9 := (kz7.al _).gr hg9 hnZ.symm; have c9' := k9.cell; have f9 := k9.frozen; have cz9 := kz9.cell; have fz9 := kz9.frozen; clear c7 f7 cz7 fz7)
                have kzF := kz9.far (p := ⟨w1.heap.size, 1, none⟩) (by simp; omega) (.slice A9 (gn + 1) c9)
                have K := (kzF.set_ 0 (.int .i64 st6)).set_ 1 (.slice A9 (gn + 1) c9)
                have cF := K.cell
                refine bodyPost_ret (v := .agg #[.int .i64 st6, .slice A9 (gn + 1) c9]) (by simp [results, Try.results91, go_sem, cF]) rfl ?_
                go_light
                have hz9 := hg9.size
                simp at hz9
                have hb9 : ∀ q', (Value.slice D6 gn dc6).ownBlock = some q' → w.heap.size + 2 ≤ q' := fun q' hq => (hG7.lt q' hq).1
                have hr9 : Rd w9 R (q + 2) := hr7.kept (fun q' hq => (hg9.block q' (by simp; omega) (fun e => by have := hb9 q' e.symm; omega)).trans (Below.heap_alloc w7 _ q' (by omega)))
                exact ⟨_, _, _, _, done ++ [⟨#[97]⟩], rfl, ownsRow_base (own_cell2 (ho9.kept (gr_cell _ _ _ _) (.inr (own_ne_blk ho9 k9 (by decide)))) kzF (by decide)) (by omega), by omega, gr_set (gr_set (gr_set (app_gr hgr7 hg9 (fun q' hq => by have := hb9 q' hq; omega)) (by simp; omega) _) (by simp) _) (by simp) _, (((hr9.set_ (by simp; omega) _).set_ (by simp; omega) _).set_ (by simp; omega) _).less (by omega)⟩
              · have e1 : (v7 == 1) = false := by simpa using h1
                clear h1
                go_wp2_with fail
                have K := (kz7.set_ 0 (.int .i64 st6)).set_ 1 (.slice D6 gn dc6)
                have cF := K.cell
                refine bodyPost_ret (v := .agg #[.int .i64 st6, .slice D6 gn dc6]) (by simp [results, Try.results91, go_sem, cF]) rfl ?_
                go_light
                exact ⟨_, _, _, _, done, rfl, ownsRow_base (own_cell2 hG7 kz7 (by decide)) (by omega), by omega, gr_set (gr_set hgr7 (by simp) _) (by simp) _, ((hr7.set_ (by simp; omega) _).set_ (by simp; omega) _).less (by omega)⟩
          · have e5 : (v5 == 0) = false := by simpa using h5
            clear h5
            go_wp2_with fail
            obtain ⟨wT, hwT⟩ : ∃ wT, wT = w5 := ⟨_, rfl⟩
            subst hwT
            obtain ⟨kT, hGT, kzT, hrT, hgT⟩ := And.intro kK5 (And.intro hG5 (And.intro kz5 (And.intro hr5 hg5)))
            clear cK5 cf5
            refine (pick_c R (q + 2) _ _ hrT).mono ?_
            rintro e w7 ⟨v7, rfl, _, hg7, hr7⟩
            have k7 := kT.grs hg7 hKR
            have kz7 := kzT.grs hg7 (by omega)
            have hG7 := own_gr hGT hg7 (by omega)
            have hgr7 := gr_nx hgT hg7
            have hs7 := hgr7.size
            have hl7 := k7.lt
            have c7 := k7.cell
            have f7 := k7.frozen
            have cz7 := kz7.cell
            have fz7 := kz7.frozen
            by_cases h0 : v7 = 0
            · have e0 : (v7 == 0) = true := by simpa using h0
              clear h0
              go_wp2_with fail
              refine (pick_c R (q + 1) _ _ hr7).mono ?_
              rintro e w8 ⟨v8, rfl, ⟨a8, b8, _⟩, hg8, hr8⟩
              have k8 := k7.grs hg8 hKR
              have kz8 := kz7.grs hg8 (by omega)
              have hG8 := own_gr hG7 hg8 (by omega)
              have hgr8 := gr_nx hgr7 hg8
              have c8 := k8.cell
              have f8 := k8.frozen
              have cz8 := kz8.cell
              have fz8 := kz8.frozen
              clear c7 f7 cz7 fz7
              have hwv : IntKind.i64.wrap (v8 - 1) = v8 - 1 := by rw [IntKind.wrap_i64]; have := b8 (by omega); omega
              go_wp2_with fail
              have kzF := kz8.far (p := ⟨w1.heap.size, 0, none⟩) (by simp; omega) (.int .i64 (v8 - 1))
              have K := (kzF.set_ 0 (.int .i64 (v8 - 1))).set_ 1 (.slice G gn gc)
              have cF := K.cell
              refine bodyPost_ret (v := .agg #[.int .i64 (v8 - 1), .slice G gn gc]) (by simp [results, Try.results91, go_sem, cF]) rfl ?_
              go_light
              exact ⟨_, _, _, _, done, rfl, ownsRow_base (own_cell2 (hG8.kept (gr_cell _ _ _ _) (.inr (own_ne_blk hG8 k8 (by decide)))) kzF (by decide)) (by omega), by omega, gr_set (gr_set (gr_set hgr8 (by simp; omega) _) (by simp) _) (by simp) _, (((hr8.set_ (by simp; omega) _).set_ (by simp; omega) _).set_ (by simp; omega) _).less (by omega)⟩
            · have e0 : (v7 == 0) = false := by simpa using h0
              clear h0
              by_cases h1 : v7 = 1
              · have e1 : (v7 == 1) = true := by simpa using h1
                clear h1
                have hnK := own_ne_blk hG7 k7 (by decide)
                have hnZ := own_ne_blk hG7 kz7 (by decide)
                go_wp2_with (at_builtin; refine wpList_append_sl (enc := encS) rfl _ _ 28 rfl (w.heap.size + 2) 9 i1 (.string ByteArray.empty) 1 16 Try.underlying28 hi1 hy0 hy1 hy2 rfl (by decide) (.slice G gn gc) gn (done.map Value.string) rfl (hG7.alloc _) (some ⟨w7.heap.size, 0, none⟩) 1 1 [⟨#[97]⟩] rfl (fun _ => rfl) (Sl.one (Blk.new _ _ _)) one_S (by unfold maxLen; omega) (by omega) (by simp; omega) ?_; intro v9 w9 ho9 hg9 hl9; obtain ⟨A9, c9, rfl⟩ := own_form ho9; rw [flat_encS, ← List.map_append] at ho9; have k9 := (k7.al _).gr hg9 hnK.symm; have kz9 := (kz7.al _).gr hg9 hnZ.symm; have c9' := k9.cell; have f9 := k9.frozen; have cz9 := kz9.cell; have fz9 := kz9.frozen; clear c7 f7 cz7 fz7)
                have kzF := kz9.far (p := ⟨w1.heap.size, 1, none⟩) (by simp; omega) (.slice A9 (gn + 1) c9)
                have K := (kzF.set_ 0 (.int .i64 st)).set_ 1 (.slice A9 (gn + 1) c9)
                have cF := K.cell
                refine bodyPost_ret (v := .agg #[.int .i64 st, .slice A9 (gn + 1) c9]) (by simp [results, Try.results91, go_sem, cF]) rfl ?_
                go_light
                have hz9 := hg9.size
                simp at hz9
                have hb9 : ∀ q', (Value.slice G gn gc).ownBlock = some q' → w.heap.size + 2 ≤ q' := fun q' hq => (hG7.lt q' hq).1
                have hr9 : Rd w9 R (q + 2) := hr7.kept (fun q' hq => (hg9.block q' (by simp; omega) (fun e => by have := hb9 q' e.symm; omega)).trans (Below.heap_alloc w7 _ q' (by omega)))
                exact ⟨_, _, _, _, done ++ [⟨#[97]⟩], rfl, ownsRow_base (own_cell2 (ho9.kept (gr_cell _ _ _ _) (.inr (own_ne_blk ho9 k9 (by decide)))) kzF (by decide)) (by omega), by omega, gr_set (gr_set (gr_set (app_gr hgr7 hg9 (fun q' hq => by have := hb9 q' hq; omega)) (by simp; omega) _) (by simp) _) (by simp) _, (((hr9.set_ (by simp; omega) _).set_ (by simp; omega) _).set_ (by simp; omega) _).less (by omega)⟩
              · have e1 : (v7 == 1) = false := by simpa using h1
                clear h1
                go_wp2_with fail
                have K := (kz7.set_ 0 (.int .i64 st)).set_ 1 (.slice G gn gc)
                have cF := K.cell
                refine bodyPost_ret (v := .agg #[.int .i64 st, .slice G gn gc]) (by simp [results, Try.results91, go_sem, cF]) rfl ?_
                go_light
                exact ⟨_, _, _, _, done, rfl, ownsRow_base (own_cell2 hG7 kz7 (by decide)) (by omega), by omega, gr_set (gr_set hgr7 (by simp) _) (by simp) _, ((hr7.set_ (by simp; omega) _).set_ (by simp; omega) _).less (by omega)⟩
        · have es : (st == 0) = false := by simpa using hst
          clear hst
          go_wp2_with fail
          obtain ⟨wT, hwT⟩ : ∃ wT, wT = wr := ⟨_, rfl⟩
          subst hwT
          obtain ⟨kT, hGT, kzT, hrT, hgT⟩ := And.intro kK (And.intro hG (And.intro kzL (And.intro (hrL.less (q' := q + 3) (by omega)) hgL)))
          clear cK cf
          refine (pick_c R (q + 2) _ _ hrT).mono ?_
          rintro e w7 ⟨v7, rfl, _, hg7, hr7⟩
          have k7 := kT.grs hg7 hKR
          have kz7 := kzT.grs hg7 (by omega)
          have hG7 := own_gr hGT hg7 (by omega)
          have hgr7 := gr_nx hgT hg7
          have hs7 := hgr7.size
          have hl7 := k7.lt
          have c7 := k7.cell
          have f7 := k7.frozen
          have cz7 := kz7.cell
          have fz7 := kz7.frozen
          by_cases h0 : v7 = 0
          · have e0 : (v7 == 0) = true := by simpa using h0
            clear h0
            go_wp2_with fail
            refine (pick_c R (q + 1) _ _ hr7).mono ?_
            rintro e w8 ⟨v8, rfl, ⟨a8, b8, _⟩, hg8, hr8⟩
            have k8 := k7.grs hg8 hKR
            have kz8 := kz7.grs hg8 (by omega)
            have hG8 := own_gr hG7 hg8 (by omega)
            have hgr8 := gr_nx hgr7 hg8
            have c8 := k8.cell
            have f8 := k8.frozen
            have cz8 := kz8.cell
            have fz8 := kz8.frozen
            clear c7 f7 cz7 fz7
            have hwv : IntKind.i64.wrap (v8 - 1) = v8 - 1 := by rw [IntKind.wrap_i64]; have := b8 (by omega); omega
            go_wp2_with fail
            have kzF := kz8.far (p := ⟨w1.heap.size, 0, none⟩) (by simp; omega) (.int .i64 (v8 - 1))
            have K := (kzF.set_ 0 (.int .i64 (v8 - 1))).set_ 1 (.slice G gn gc)
            have cF := K.cell
            refine bodyPost_ret (v := .agg #[.int .i64 (v8 - 1), .slice G gn gc]) (by simp [results, Try.results91, go_sem, cF]) rfl ?_
            go_light
            exact ⟨_, _, _, _, done, rfl, ownsRow_base (own_cell2 (hG8.kept (gr_cell _ _ _ _) (.inr (own_ne_blk hG8 k8 (by decide)))) kzF (by decide)) (by omega), by omega, gr_set (gr_set (gr_set hgr8 (by simp; omega) _) (by simp) _) (by simp) _, (((hr8.set_ (by simp; omega) _).set_ (by simp; omega) _).set_ (by simp; omega) _).less (by omega)⟩
          · have e0 : (v7 == 0) = false := by simpa using h0
            clear h0
            by_cases h1 : v7 = 1
            · have e1 : (v7 == 1) = true := by simpa using h1
              clear h1
              have hnK := own_ne_blk hG7 k7 (by decide)
              have hnZ := own_ne_blk hG7 kz7 (by decide)
              go_wp2_with (at_builtin; refine wpList_append_sl (enc := encS) rfl _ _ 28 rfl (w.heap.size + 2) 9 i1 (.string ByteArray.empty) 1 16 Try.underlying28 hi1 hy0 hy1 hy2 rfl (by decide) (.slice G gn gc) gn (done.map Value.string) rfl (hG7.alloc _) (some ⟨w7.heap.size, 0, none⟩) 1 1 [⟨#[97]⟩] rfl (fun _ => rfl) (Sl.one (Blk.new _ _ _)) one_S (by unfold maxLen; omega) (by omega) (by simp; omega) ?_; intro v9 w9 ho9 hg9 hl9; obtain ⟨A9, c9, rfl⟩ := own_form ho9; rw [flat_encS, ← List.map_append] at ho9; have k9 := (k7.al _).gr hg9 hnK.symm; have kz9 := (kz7.al _).gr hg9 hnZ.symm; have c9' := k9.cell; have f9 := k9.frozen; have cz9 := kz9.cell; have fz9 := kz9.frozen; clear c7 f7 cz7 fz7)
              have kzF := kz9.far (p := ⟨w1.heap.size, 1, none⟩) (by simp; omega) (.slice A9 (gn + 1) c9)
              have K := (kzF.set_ 0 (.int .i64 st)).set_ 1 (.slice A9 (gn + 1) c9)
              have cF := K.cell
              refine bodyPost_ret (v := .agg #[.int .i64 st, .slice A9 (gn + 1) c9]) (by simp [results, Try.results91, go_sem, cF]) rfl ?_
              go_light
              have hz9 := hg9.size
              simp at hz9
              have hb9 : ∀ q', (Value.slice G gn gc).ownBlock = some q' → w.heap.size + 2 ≤ q' := fun q' hq => (hG7.lt q' hq).1
              have hr9 : Rd w9 R (q + 2) := hr7.kept (fun q' hq => (hg9.block q' (by simp; omega) (fun e => by have := hb9 q' e.symm; omega)).trans (Below.heap_alloc w7 _ q' (by omega)))
              exact ⟨_, _, _, _, done ++ [⟨#[97]⟩], rfl, ownsRow_base (own_cell2 (ho9.kept (gr_cell _ _ _ _) (.inr (own_ne_blk ho9 k9 (by decide)))) kzF (by decide)) (by omega), by omega, gr_set (gr_set (gr_set (app_gr hgr7 hg9 (fun q' hq => by have := hb9 q' hq; omega)) (by simp; omega) _) (by simp) _) (by simp) _, (((hr9.set_ (by simp; omega) _).set_ (by simp; omega) _).set_ (by simp; omega) _).less (by omega)⟩
            · have e1 : (v7 == 1) = false := by simpa using h1
              clear h1
              go_wp2_with fail
              have K := (kz7.set_ 0 (.int .i64 st)).set_ 1 (.slice G gn gc)
              have cF := K.cell
              refine bodyPost_ret (v := .agg #[.int .i64 st, .slice G gn gc]) (by simp [results, Try.results91, go_sem, cF]) rfl ?_
              go_light
              exact ⟨_, _, _, _, done, rfl, ownsRow_base (own_cell2 hG7 kz7 (by decide)) (by omega), by omega, gr_set (gr_set hgr7 (by simp) _) (by simp) _, ((hr7.set_ (by simp; omega) _).set_ (by simp; omega) _).less (by omega)⟩
end Go.Proofs.Ytdchfiiaollheaa
