/- A message is taken: the walk over the reference's InboxTake. -/
import Derived.Test.YtdcojlbekpcejaaInboxTake
namespace Go.Proofs.Ytdcojlbekpcejaa
open Go.RowKit

theorem lit_own (W : World) {B : Nat} (hB : B ≤ W.heap.size) : (W.alloc (.cells #[] 3)).ownsRow B 3 1 (.slice (some ⟨W.heap.size, 0, none⟩) 0 0) 0 [] :=
  ownsRow_base (World.ownsRow_lit (size := 1) (e := 3) W #[] 0 (Nat.le_refl _) (by unfold maxLen; omega) rfl) hB
def lenAt (w : World) (g : Nat) : Nat := match w.cell? ⟨g, 1, none⟩ with | some (.slice _ n _) => n | _ => 0
theorem lenAt_blk {w : World} {g : Nat} {t : TypeId} {cs : Array Value} {A : Option Addr} {n c : Nat} (h : Blk w g t cs) (h1 : cs[1]? = some (.slice A n c)) : lenAt w g = n := by
  unfold lenAt
  rw [h.cell 1, h1]

set_option maxRecDepth 20000 in
set_option maxHeartbeats 2000000 in
theorem specInboxTake_c (a : Int) (A : Option Addr) (n c : Nat) (l : List Int) (x : Int) (w : World) (h : SlI w A n c l) (ha : -9223372036854775808 ≤ a) (ha2 : a ≤ 9223372036854775807) : Calls Try.prog 35 #[.agg #[.int .i64 a, .slice A n c], .int .i64 x] w fun e w' =>
    ∃ A' n' c', e = .returned (.tuple #[.agg #[.int .i64 (takeF a l x).1, .slice A' n' c'], .bool (takeF a l x).2.2.1, .bool (takeF a l x).2.2.2]) ∧ SlI w' A' n' c' (takeF a l x).2.1 ∧ (∀ q, A' = some q → w.heap.size ≤ q.block) ∧ Below w.heap.size w w' := by
  obtain ⟨i0, hi0, hz0, hz1, hz2⟩ := info_parts int_info
  have HL := Lib.hid h.len
  have hcap := h.cap
  have hmax := h.max
  go_enter Try.func35, Try.ntmps35
  go_wp2_with fail
  have kb0 := (Blk.new w 25 #[.int .i64 a, .slice A n c]).al (.cells #[.int .i64 0, .slice none 0 0] 25)
  have kr0 := Blk.new (w.alloc (.cells #[.int .i64 a, .slice A n c] 25)) 25 #[.int .i64 0, .slice none 0 0]
  simp only [World.alloc, Array.size_push] at kb0 kr0
  refine (specInboxValid_c a A n c l _ ((h.al _).al _) ha ha2).mono ?_
  rintro e w1 ⟨rfl, hb1⟩
  have kb := kb0.bel (by first | exact hb1 | simpa using hb1)
  have kr := kr0.bel (by first | exact hb1 | simpa using hb1)
  have h1 : SlI w1 A n c l := ((h.al _).al _).bel hb1
  have hw1 : Below w.heap.size w w1 := by (repeat' first | assumption | exact bel_refl _ | refine bel_al ?_ _ | refine bel_dr ?_ | refine bel_drN ?_ _ | refine bel_nx ?_ (by assumption) | (refine bel_set ?_ (by first | omega | (simp; omega)) _))
  have hz1' : w.heap.size + 2 ≤ w1.heap.size := by have := kr.lt; omega
  have cb := kb.cell
  have fb := kb.frozen
  have cr := kr.cell
  have fr := kr.frozen
  clear kb0 kr0
  cases hv : inbB a l
  · have HF := Lib.hid (takeF_no1 (x := x) hv)
    clear hv
    go_wp2_with fail
    have kz := (kr.set_ 0 (.int .i64 0)).set_ 1 (.slice none 0 0)
    have cz := kz.cell
    rw [HF.out]
    refine bodyPost_ret (v := .tuple #[.agg #[.int .i64 0, .slice none 0 0], .bool false, .bool false]) (by simp [results, Try.results35, go_sem, cz]) rfl ⟨none, 0, 0, rfl, Sl.nil_ _ _ _, fun q hq => (by cases hq), ?_⟩
    exact bel_set (bel_set hw1 (by simp) _) (by simp) _
  have HV := Lib.hid hv
  have hn6 : n ≤ 6 := by have := (inb_iff.1 hv).2.2.1; rw [HL.out] at this; exact this
  have ha0 : 0 ≤ a ∧ a ≤ 999 := ⟨(inb_iff.1 hv).1, (inb_iff.1 hv).2.1⟩
  clear hv
  go_wp2_with fail
  obtain ⟨bx, hbx⟩ : ∃ b, (decide (1 ≤ x) && decide (x ≤ 999)) = b := ⟨_, rfl⟩
  refine (l6In_b x 1 999 bx _ hbx).mono ?_
  rintro e w1 ⟨rfl, rfl⟩
  cases bx
  · have HF := Lib.hid (takeF_no2 (a := a) (l := l) (x := x) (fun h => by simp [h.1, h.2] at hbx))
    clear hbx
    go_wp2_with fail
    have kz := (kr.set_ 0 (.int .i64 0)).set_ 1 (.slice none 0 0)
    have cz := kz.cell
    rw [HF.out]
    refine bodyPost_ret (v := .tuple #[.agg #[.int .i64 0, .slice none 0 0], .bool false, .bool false]) (by simp [results, Try.results35, go_sem, cz]) rfl ⟨none, 0, 0, rfl, Sl.nil_ _ _ _, fun q hq => (by cases hq), ?_⟩
    exact bel_set (bel_set hw1 (by simp) _) (by simp) _
  have HX : Hid (1 ≤ x ∧ x ≤ 999) := Lib.hid (by simpa using hbx)
  clear hbx
  go_wp2_with fail
  go_cut [7] (fun p wc => ∃ (g : Nat) (A1 : Option Addr) (c1 : Nat), p = .pointer (some ⟨g, 0, none⟩) ∧ Blk wc g 25 #[.int .i64 a, .slice A1 n c1] ∧ wc.ownsRow (w.heap.size + 2) 3 1 (.slice A1 n c1) n (l.map (Value.int .i64)) ∧ Below w.heap.size w wc ∧ Blk wc w.heap.size 25 #[.int .i64 a, .slice A n c] ∧ Blk wc (w.heap.size + 1) 25 #[.int .i64 0, .slice none 0 0] ∧ w.heap.size + 1 < g)
  case first =>
    go_region_law (first
      | (refine step_append_sl (enc := encI) (by rfl) _ _ 23 (by rfl) (w.heap.size + 2) 3 i0 (.int .i64 0) 1 8 Try.underlying23 hi0 hz0 hz1 hz2 rfl (by decide) (.slice (some ⟨w1.heap.size, 0, none⟩) 0 0) 0 [] (by rfl) (by first | exact lit_own w1 (by omega) | exact (lit_own w1 (by omega)).alloc _) A n c l (by rfl) (fun _ => rfl) (by first | exact h1.al _ | exact (h1.al _).dr | exact (h1.al _).al _ | exact ((h1.al _).al _).dr) one_I (by unfold maxLen; omega) (by omega) (by simp; omega) ?_; intro v3 w3 ho3 hg3 hl3; obtain ⟨A3, c3, rfl⟩ := own_form ho3; rw [flat_encI] at ho3; have kb3 := Blk.gr (by first | exact kb.al _ | exact (kb.al _).al _) hg3 (by simp [Value.ownBlock]; omega); have kr3 := Blk.gr (by first | exact kr.al _ | exact (kr.al _).al _) hg3 (by simp [Value.ownBlock]; omega); have cb3 := kb3.cell; try (have kg3 := Blk.gr (by first | exact (Blk.new w1 25 #[.int .i64 0, .slice none 0 0]).al _ | exact Blk.new (w1.alloc (.cells #[] 3)) 25 #[.int .i64 0, .slice none 0 0]) hg3 (by simp [Value.ownBlock]); (try simp only [World.alloc, Array.size_push] at kg3); have cg3 := kg3.cell; have fg3 := kg3.frozen))
      | (refine step_append_sl (enc := encI) (by rfl) _ _ 23 (by rfl) (w.heap.size + 2) 3 i0 (.int .i64 0) 1 8 Try.underlying23 hi0 hz0 hz1 hz2 rfl (by decide) (.slice (some ⟨w1.heap.size + 1, 0, none⟩) 0 0) 0 [] (by rfl) (by have hh := lit_own (w1.alloc (.cells #[.int .i64 0, .slice none 0 0] 25)) (B := w.heap.size + 2) (by simp; omega); simp only [World.alloc, Array.size_push] at hh; exact hh) A n c l (by rfl) (fun _ => rfl) (by first | exact h1.al _ | exact (h1.al _).dr | exact (h1.al _).al _ | exact ((h1.al _).al _).dr) one_I (by unfold maxLen; omega) (by omega) (by simp; omega) ?_; intro v3 w3 ho3 hg3 hl3; obtain ⟨A3, c3, rfl⟩ := own_form ho3; rw [flat_encI] at ho3; have kb3 := Blk.gr (by first | exact kb.al _ | exact (kb.al _).al _) hg3 (by simp [Value.ownBlock]; omega); have kr3 := Blk.gr (by first | exact kr.al _ | exact (kr.al _).al _) hg3 (by simp [Value.ownBlock]; omega); have cb3 := kb3.cell; try (have kg3 := Blk.gr (by first | exact (Blk.new w1 25 #[.int .i64 0, .slice none 0 0]).al _ | exact Blk.new (w1.alloc (.cells #[] 3)) 25 #[.int .i64 0, .slice none 0 0]) hg3 (by simp [Value.ownBlock]); (try simp only [World.alloc, Array.size_push] at kg3); have cg3 := kg3.cell; have fg3 := kg3.frozen)))
    all_goals (go_wp2_with fail; go_meet)
    all_goals case rel =>
      have hz3 := hg3.size
      simp at hz3
      have ho4 : w3.ownsRow (w.heap.size + 2) 3 1 (.slice A3 n c3) n (l.map (Value.int .i64)) := by simpa using ho3
      have hb3 : Below w.heap.size w w3 := by
        first
          | exact Below.grown (bel_al hw1 _) hg3 (by simp; omega) (fun j hj => by simp [Value.ownBlock] at hj; omega)
          | exact Below.grown (bel_dr (bel_al hw1 _)) hg3 (by simp; omega) (fun j hj => by simp [Value.ownBlock] at hj; omega)
          | exact Below.grown (bel_al (bel_dr hw1) _) hg3 (by simp; omega) (fun j hj => by simp [Value.ownBlock] at hj; omega)
          | exact Below.grown (bel_al (bel_al hw1 _) _) hg3 (by simp; omega) (fun j hj => by simp [Value.ownBlock] at hj; omega)
          | exact Below.grown (bel_dr (bel_al (bel_al hw1 _) _)) hg3 (by simp; omega) (fun j hj => by simp [Value.ownBlock] at hj; omega)
          | exact Below.grown (bel_al (bel_al (bel_dr hw1) _) _) hg3 (by simp; omega) (fun j hj => by simp [Value.ownBlock] at hj; omega)
      first
        | exact ⟨w3.heap.size, A3, c3, rfl, Blk.new w3 25 #[.int .i64 a, .slice A3 n c3], ho4.alloc _, bel_al hb3 _, kb3.al _, kr3.al _, by omega⟩
        | exact ⟨w1.heap.size, A3, c3, rfl, by simpa using (kg3.set_ 0 (.int .i64 a)).set_ 1 (.slice A3 n c3), own_cell (own_cell ho4 kg3 (by decide) 0 _) (kg3.set_ 0 (.int .i64 a)) (by decide) 1 _, bel_set (bel_set hb3 (by simp; omega) _) (by simp; omega) _, (kb3.far (by simp; omega) _).far (by simp; omega) _, (kr3.far (by simp; omega) _).far (by simp; omega) _, by omega⟩
        | exact ⟨w1.heap.size + 1, A3, c3, rfl, by simpa using (kg3.set_ 0 (.int .i64 a)).set_ 1 (.slice A3 n c3), own_cell (own_cell ho4 kg3 (by decide) 0 _) (kg3.set_ 0 (.int .i64 a)) (by decide) 1 _, bel_set (bel_set hb3 (by simp; omega) _) (by simp; omega) _, (kb3.far (by simp; omega) _).far (by simp; omega) _, (kr3.far (by simp; omega) _).far (by simp; omega) _, by omega⟩
  case rest =>
    obtain ⟨g, A1, c1, rfl, hG, hown, hbc, hB, hR, hgz⟩ := hcut
    clear cb fb cr fr hb1 kb kr
    have cB := hB.cell
    have fB := hB.frozen
    have hhc := h.bel hbc
    go_wp2_with fail
    refine (specHas_c a A n c l x _ (by first | exact hhc | exact hhc.dr | exact hhc.drN _)).mono ?_
    rintro e w4 ⟨rfl, hb4⟩
    have hG := hG.bel hb4
    have hB := hB.bel hb4
    have hR := hR.bel hb4
    have hown := own_bel hown hb4
    have hbw := bel_nx hbc hb4
    clear cB fB hhc hb4 hbc
    have cG := hG.cell
    have fG := hG.frozen
    have cR := hR.cell
    have fR := hR.frozen
    cases hh : hasB a l x
    · have HH := Lib.hid hh
      have hxl : x ∉ l := fun e => (has_not.1 hh) (.inr e)
      have hlb := (inb_iff.1 HV.out).2.2.2.1
      have HA9 : Hid (∀ z ∈ putZ l x, z ≤ 999) := Lib.hid (fun z hz => by
        rcases mem_put.1 hz with rfl | hz
        · exact HX.out.2
        · exact (hlb z hz).2)
      have HPL := Lib.hid (put_len x l)
      clear hh hxl hlb
      go_wp2_with fail
      refine (l22Put_c A1 n c1 l x _ (SlI.of_own hown) (by omega)).mono ?_
      rintro e w6 ⟨A2, m2, c2, rfl, ho2, hb6⟩
      have hsz := hbw.size
      have hglt := hG.lt
      have hrlt := hR.lt
      have hG := hG.bel hb6
      have hR := hR.bel hb6
      have hbw := bel_nx hbw hb6
      have hs0 := SlI.of_own ho2
      have hm2 : m2 = n + 1 := by rw [← hs0.len, HPL.out, HL.out]
      subst hm2
      have hA2 : ∀ q, A2 = some q → q.block ≠ g ∧ w.heap.size + 1 < q.block := fun q hq => by
        have := (ho2.lt q.block (by rw [hq]; rfl)).1
        exact ⟨by omega, by omega⟩
      clear cG fG cR fR hown hsz ho2 hB h1 hw1 hb6
      have cG := hG.cell
      have fG := hG.frozen
      have cR := hR.cell
      have fR := hR.frozen
      go_wp2_with fail
      go_loopw [] (fun wr => ∃ (A' : Option Addr) (m' c' : Nat) (a' : Int) (out : List Int), SlI wr A' m' c' out ∧ Hid (absorb a' out = absorb a (putZ l x)) ∧ Hid (∀ z ∈ out, z ≤ 999) ∧ Hid (∀ q, A' = some q → q.block ≠ g ∧ w.heap.size + 1 < q.block) ∧ m' ≤ 7 ∧ 0 ≤ a' ∧ a' ≤ 999 ∧ Blk wr g 25 #[.int .i64 a', .slice A' m' c'] ∧ Blk wr (w.heap.size + 1) 25 #[.int .i64 0, .slice none 0 0] ∧ Below w.heap.size w wr) (fun wr => lenAt wr g)
      case atStart => exact ⟨A2, n + 1, c2, a, putZ l x, hs0.gr (gr_cell _ g 1 _) (fun q hq => (hA2 q hq).1), Lib.hid rfl, HA9, Lib.hid hA2, by omega, ha0.1, ha0.2, by simpa using hG.set_ 1 (.slice A2 (n + 1) c2), hR.far (by simp; omega) _, bel_set hbw (by simp; omega) _⟩
      case round =>
        obtain ⟨A', m', c', a', out, hs, HAB, HO9, HNE, hm7, ha1, ha9, hG, hR, hbr⟩ := hrel
        have HOL := Lib.hid hs.len
        have hcap' := hs.cap
        have hmax' := hs.max
        have cG := hG.cell
        have fG := hG.frozen
        have cR := hR.cell
        have fR := hR.frozen
        have hwa : IntKind.i64.wrap (a' + 1) = a' + 1 := by rw [IntKind.wrap_i64]; omega
        by_cases hgo : ∃ y r, out = y :: r ∧ y = a' + 1
        · obtain ⟨y, r, rfl, hy⟩ := hgo
          obtain ⟨p, rfl⟩ : ∃ p, m' = p + 1 := ⟨m' - 1, by have := HOL.out; simp at this; omega⟩
          obtain ⟨b, off, z, rfl, hz, hcz⟩ := SlI.get hs (i := 0) (by omega)
          obtain rfl : y = z := by simpa using hz
          clear hz
          rw [Nat.add_zero] at hcz
          have HY := Lib.hid hy
          have hy9 : y ≤ 999 := HO9.out y (by simp)
          have hp0 : (0 : Int) < ((p + 1 : Nat) : Int) := by omega
          have dp0 : decide ((0 : Int) < ((p + 1 : Nat) : Int)) = true := decide_eq_true hp0
          have dp1 : decide ((0 : Int) < (p : Int) + 1) = true := decide_eq_true (by omega)
          have dy : (y == a' + 1) = true := by simpa using hy
          have hsD := Sl.drop hs (m := 1) (by omega)
          rw [Nat.mul_one] at hsD
          obtain ⟨AD, hAD⟩ : ∃ AD, (if c' = 1 then some (⟨b, off, none⟩ : Addr) else some ⟨b, off + 1, none⟩) = AD := ⟨_, rfl⟩
          rw [hAD] at hsD
          have hneD : ∀ q, AD = some q → q.block ≠ g ∧ w.heap.size + 1 < q.block := fun q hq => by
            have := HNE.out _ rfl
            rw [← hAD] at hq
            split at hq <;> (cases hq; exact this)
          have HND := Lib.hid hneD
          have hsE : SlI wr AD p (c' - 1) r := by simpa using hsD
          have hGn := ((hG.drN 0).set_ 0 (.int .i64 (a' + 1))).set_ 1 (.slice AD p (c' - 1))
          clear hy hneD hsD
          go_wp2_with fail
          go_quiet (fail)
          go_wp2_with fail
          go_roundw
          case rel => exact ⟨AD, p, c' - 1, a' + 1, r, ((hsE.drN nq).gr (gr_cell _ g 0 _) (fun q hq => (HND.out q hq).1)).gr (gr_cell _ g 1 _) (fun q hq => (HND.out q hq).1), Lib.hid ((absorb_go HY.out).symm.trans HAB.out), Lib.hid (fun z hz => HO9.out z (by simp [hz])), HND, by omega, by omega, by have := HY.out; omega, by simpa using ((hG.drN nq).set_ 0 (.int .i64 (a' + 1))).set_ 1 (.slice AD p (c' - 1)), ((hR.drN nq).far (by simp; omega) _).far (by simp; omega) _, bel_set (bel_set (bel_drN hbr nq) (by simp; omega) _) (by simp; omega) _⟩
          case measure =>
            rw [lenAt_blk hG rfl, lenAt_blk (A := AD) (n := p) (c := c' - 1) (((hG.drN nq).set_ 0 (.int .i64 (a' + 1))).set_ 1 (.slice AD p (c' - 1))) (by simp)]
            omega
        · have HF : Hid (absorb a (putZ l x) = (a', out)) := Lib.hid (by
            rw [← HAB.out]
            rcases out with _ | ⟨y, r⟩
            · rfl
            · exact absorb_stop (fun e => hgo ⟨y, r, rfl, e⟩))
          have hsz := hbr.size
          rcases Nat.eq_zero_or_pos m' with rfl | hpos
          · clear hgo
            go_wp2_with fail
            go_quiet (fail)
            go_wp2_with fail
            refine (specInboxValid_c a' A' 0 c' _ _ (hs.drN nq) (by omega) (by omega)).mono ?_
            rintro e w9 ⟨rfl, hb9⟩
            have hG9 := (hG.drN nq).bel hb9
            have hR9 := (hR.drN nq).bel hb9
            have hs9 := (hs.drN nq).bel hb9
            have hb9' := bel_nx (bel_drN hbr nq) hb9
            clear cG fG cR fR hb9 hG hR
            have cG := hG9.cell
            have fG := hG9.frozen
            have cR := hR9.cell
            have fR := hR9.frozen
            obtain ⟨bv, hv⟩ : ∃ bv, inbB a' out = bv := ⟨_, rfl⟩
            rw [hv]
            cases bv
            · have HT : Hid (takeF a l x = (0, [], false, false)) := Lib.hid (by rw [takeF_new HV.out HX.out HH.out HF.out, if_neg (by simp [hv])])
              clear hv
              go_wp2_with fail
              have kz := (hR9.set_ 0 (.int .i64 0)).set_ 1 (.slice none 0 0)
              have cz := kz.cell
              rw [HT.out]
              refine bodyPost_ret (v := .tuple #[.agg #[.int .i64 0, .slice none 0 0], .bool false, .bool false]) (by simp [results, Try.results35, go_sem, cz]) rfl ⟨none, 0, 0, rfl, Sl.nil_ _ _ _, fun q hq => (by cases hq), ?_⟩
              exact bel_set (bel_set hb9' (by simp) _) (by simp) _
            · have HT : Hid (takeF a l x = (a', out, true, true)) := Lib.hid (by rw [takeF_new HV.out HX.out HH.out HF.out, if_pos hv])
              clear hv
              go_wp2_with fail
              have kz := (hR9.set_ 0 (.int .i64 a')).set_ 1 (.slice A' 0 c')
              have cz := kz.cell
              rw [HT.out]
              refine bodyPost_ret (v := .tuple #[.agg #[.int .i64 a', .slice A' 0 c'], .bool true, .bool true]) (by simp [results, Try.results35, go_sem, cz]) rfl ⟨A', 0, c', rfl, (hs9.gr (gr_cell _ (w.heap.size + 1) 0 _) (fun q hq => by have := (HNE.out q hq).2; omega)).gr (gr_cell _ (w.heap.size + 1) 1 _) (fun q hq => by have := (HNE.out q hq).2; omega), fun q hq => by have := (HNE.out q hq).2; omega, ?_⟩
              exact bel_set (bel_set hb9' (by simp) _) (by simp) _

          · obtain ⟨y, r, rfl⟩ : ∃ y r, out = y :: r := by
              rcases out with _ | ⟨y, r⟩
              · have := HOL.out; simp at this; omega
              · exact ⟨y, r, rfl⟩
            obtain ⟨b, off, z, rfl, hz, hcz⟩ := SlI.get hs (i := 0) (by omega)
            obtain rfl : y = z := by simpa using hz
            clear hz
            rw [Nat.add_zero] at hcz
            have hp0 : (0 : Int) < (m' : Int) := by omega
            have dp0 : decide ((0 : Int) < (m' : Int)) = true := decide_eq_true hp0
            have dy : (y == a' + 1) = false := by simpa using fun e => hgo ⟨y, r, rfl, e⟩
            clear hgo
            go_wp2_with fail
            go_quiet (fail)
            go_wp2_with fail
            refine (specInboxValid_c a' (some ⟨b, off, none⟩) m' c' _ _ (hs.drN nq) (by omega) (by omega)).mono ?_
            rintro e w9 ⟨rfl, hb9⟩
            have hG9 := (hG.drN nq).bel hb9
            have hR9 := (hR.drN nq).bel hb9
            have hs9 := (hs.drN nq).bel hb9
            have hb9' := bel_nx (bel_drN hbr nq) hb9
            clear cG fG cR fR hb9 hG hR
            have cG := hG9.cell
            have fG := hG9.frozen
            have cR := hR9.cell
            have fR := hR9.frozen
            obtain ⟨bv, hv⟩ : ∃ bv, inbB a' (y :: r) = bv := ⟨_, rfl⟩
            rw [hv]
            cases bv
            · have HT : Hid (takeF a l x = (0, [], false, false)) := Lib.hid (by rw [takeF_new HV.out HX.out HH.out HF.out, if_neg (by simp [hv])])
              clear hv
              go_wp2_with fail
              have kz := (hR9.set_ 0 (.int .i64 0)).set_ 1 (.slice none 0 0)
              have cz := kz.cell
              rw [HT.out]
              refine bodyPost_ret (v := .tuple #[.agg #[.int .i64 0, .slice none 0 0], .bool false, .bool false]) (by simp [results, Try.results35, go_sem, cz]) rfl ⟨none, 0, 0, rfl, Sl.nil_ _ _ _, fun q hq => (by cases hq), ?_⟩
              exact bel_set (bel_set hb9' (by simp) _) (by simp) _
            · have HT : Hid (takeF a l x = (a', (y :: r), true, true)) := Lib.hid (by rw [takeF_new HV.out HX.out HH.out HF.out, if_pos hv])
              clear hv
              go_wp2_with fail
              have kz := (hR9.set_ 0 (.int .i64 a')).set_ 1 (.slice (some ⟨b, off, none⟩) m' c')
              have cz := kz.cell
              rw [HT.out]
              refine bodyPost_ret (v := .tuple #[.agg #[.int .i64 a', .slice (some ⟨b, off, none⟩) m' c'], .bool true, .bool true]) (by simp [results, Try.results35, go_sem, cz]) rfl ⟨some ⟨b, off, none⟩, m', c', rfl, (hs9.gr (gr_cell _ (w.heap.size + 1) 0 _) (fun q hq => by have := (HNE.out q hq).2; omega)).gr (gr_cell _ (w.heap.size + 1) 1 _) (fun q hq => by have := (HNE.out q hq).2; omega), fun q hq => by have := (HNE.out q hq).2; omega, ?_⟩
              exact bel_set (bel_set hb9' (by simp) _) (by simp) _
    · have HF := Lib.hid (takeF_has HV.out HX.out hh)
      clear hh
      go_wp2_with fail
      have kz := (hR.set_ 0 (.int .i64 a)).set_ 1 (.slice A1 n c1)
      have cz := kz.cell
      rw [HF.out]
      have ho9 := own_cell (own_cell hown hR (by decide) 0 (.int .i64 a)) (hR.set_ 0 (.int .i64 a)) (by decide) 1 (.slice A1 n c1)
      refine bodyPost_ret (v := .tuple #[.agg #[.int .i64 a, .slice A1 n c1], .bool false, .bool true]) (by simp [results, Try.results35, go_sem, cz]) rfl ⟨A1, n, c1, rfl, SlI.of_own ho9, fun q hq => by have := (ho9.lt q.block (by rw [hq]; rfl)).1; omega, ?_⟩
      exact bel_set (bel_set hbw (by simp) _) (by simp) _

end Go.Proofs.Ytdcojlbekpcejaa
