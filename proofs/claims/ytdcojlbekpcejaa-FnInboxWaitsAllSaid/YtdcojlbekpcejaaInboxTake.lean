/- A message is taken: the walk over the program's InboxTake. -/
import Derived.Test.YtdcojlbekpcejaaInboxPut
import Derived.Test.YtdcojlbekpcejaaInboxTo
import Derived.BigRegion
import Derived.Deep.Cut
import Derived.Deep.CutRange
import Derived.Deep.CutBlock
import Derived.Deep.DeepCutAuto
namespace Go.Proofs.Ytdcojlbekpcejaa
open Go.RowKit

theorem own_cell {w : World} {B : Nat} {e : TypeId} {k n g : Nat} {v : Value} {xs : List Value} {t : TypeId} {cs : Array Value} (h : w.ownsRow B e k v n xs) (hg : Blk w g t cs) (hne : e ≠ t) (o : Nat) (u : Value) : (w.setCell ⟨g, o, none⟩ u).ownsRow B e k v n xs :=
  h.kept (gr_cell w g o u) (.inr (own_ne_blk h hg hne))

theorem Sl.gr {α : Type} {enc : α → List Value} {k n c g : Nat} {w w' : World} {A : Option Addr} {l : List α} (h : Sl enc k w A n c l) (hg : w.grownBy w' (some g)) (hne : ∀ q, A = some q → q.block ≠ g) : Sl enc k w' A n c l := by
  obtain ⟨h1, h2, h3, h4⟩ := h
  refine ⟨h1, h2, h3, fun hn => ?_⟩
  obtain ⟨b, off, hA, hc⟩ := h4 hn
  refine ⟨b, off, hA, fun i a ha j u hu => ?_⟩
  have hx := hc i a ha j u hu
  have hlt := cell_some_lt (by rw [hx]; rfl)
  exact (World.cell?_of_block (w := w) (hg.block b hlt (fun e => hne _ hA (by simpa using e)))).trans hx

set_option maxRecDepth 20000 in
set_option maxHeartbeats 2000000 in
theorem implInboxTake_c (a : Int) (A : Option Addr) (n c : Nat) (l : List Int) (x : Int) (w : World) (h : SlI w A n c l) (ha : -9223372036854775808 ≤ a) (ha2 : a ≤ 9223372036854775807) : Calls Try.prog 33 #[.agg #[.int .i64 a, .slice A n c], .int .i64 x] w fun e w' =>
    ∃ A' n' c', e = .returned (.tuple #[.agg #[.int .i64 (takeF a l x).1, .slice A' n' c'], .bool (takeF a l x).2.2.1, .bool (takeF a l x).2.2.2]) ∧ w'.ownsRow w.heap.size 3 1 (.slice A' n' c') n' ((takeF a l x).2.1.map (Value.int .i64)) ∧ Below w.heap.size w w' := by
  obtain ⟨i0, hi0, hz0, hz1, hz2⟩ := info_parts int_info
  have HL := Lib.hid h.len
  have hcap := h.cap
  have hmax := h.max
  go_enter Try.func33, Try.ntmps33
  go_wp2_with fail
  have kb0 := (Blk.new w 25 #[.int .i64 a, .slice A n c]).al (.cells #[.int .i64 0, .slice none 0 0] 25)
  have kr0 := Blk.new (w.alloc (.cells #[.int .i64 a, .slice A n c] 25)) 25 #[.int .i64 0, .slice none 0 0]
  simp only [World.alloc, Array.size_push] at kb0 kr0
  refine (implInboxValid_c a A n c l _ ((h.al _).al _) ha ha2).mono ?_
  rintro e w1 ⟨rfl, hb1⟩
  have kb := kb0.bel (by first | exact hb1 | simpa using hb1)
  have kr := kr0.bel (by first | exact hb1 | simpa using hb1)
  have h1 : SlI w1 A n c l := ((h.al _).al _).bel hb1
  have hw1 : Below w.heap.size w w1 := by (repeat' first | assumption | exact bel_refl _ | refine bel_al ?_ _ | refine bel_dr ?_ | refine bel_drN ?_ _ | refine bel_nx ?_ (by assumption) | (refine bel_set ?_ (by first | omega | (simp; omega)) _))
  have hz1' : w.heap.size + 2 ≤ w1.heap.size := by have := kr.lt; omega
  have cb := kb.cell
  have fb := kb.frozen
  have cr := kr.cell
  have fr := kr.frozen
  clear kb0 kr0
  cases hv : inbB a l
  · have HF := Lib.hid (takeF_no1 (x := x) hv)
    clear hv
    go_wp2_with fail
    have kz := (kr.set_ 0 (.int .i64 0)).set_ 1 (.slice none 0 0)
    have cz := kz.cell
    rw [HF.out]
    refine bodyPost_ret (v := .tuple #[.agg #[.int .i64 0, .slice none 0 0], .bool false, .bool false]) (by simp [results, Try.results33, go_sem, cz]) rfl ⟨none, 0, 0, rfl, World.ownsRow_nil _ _ _ _, ?_⟩
    exact bel_set (bel_set hw1 (by simp) _) (by simp) _
  have HV := Lib.hid hv
  have hn6 : n ≤ 6 := by have := (inb_iff.1 hv).2.2.1; rw [HL.out] at this; exact this
  have ha0 : 0 ≤ a ∧ a ≤ 999 := ⟨(inb_iff.1 hv).1, (inb_iff.1 hv).2.1⟩
  clear hv
  by_cases x1 : x < 1
  · have d1 : decide (x < 1) = true := decide_eq_true x1
    have HF := Lib.hid (takeF_no2 (a := a) (l := l) (x := x) (fun h => by omega))
    go_wp2_with fail
    have kz := (kr.set_ 0 (.int .i64 0)).set_ 1 (.slice none 0 0)
    have cz := kz.cell
    rw [HF.out]
    refine bodyPost_ret (v := .tuple #[.agg #[.int .i64 0, .slice none 0 0], .bool false, .bool false]) (by simp [results, Try.results33, go_sem, cz]) rfl ⟨none, 0, 0, rfl, World.ownsRow_nil _ _ _ _, ?_⟩
    exact bel_set (bel_set hw1 (by simp) _) (by simp) _
  have d1 : decide (x < 1) = false := decide_eq_false x1
  by_cases x2 : 999 < x
  · have d2 : decide (999 < x) = true := decide_eq_true x2
    have HF := Lib.hid (takeF_no2 (a := a) (l := l) (x := x) (fun h => by omega))
    go_wp2_with fail
    have kz := (kr.set_ 0 (.int .i64 0)).set_ 1 (.slice none 0 0)
    have cz := kz.cell
    rw [HF.out]
    refine bodyPost_ret (v := .tuple #[.agg #[.int .i64 0, .slice none 0 0], .bool false, .bool false]) (by simp [results, Try.results33, go_sem, cz]) rfl ⟨none, 0, 0, rfl, World.ownsRow_nil _ _ _ _, ?_⟩
    exact bel_set (bel_set hw1 (by simp) _) (by simp) _
  have d2 : decide (999 < x) = false := decide_eq_false x2
  go_wp2_with fail
  go_cut [7] (fun p wc => ∃ (g : Nat) (A1 : Option Addr) (c1 : Nat), p = .pointer (some ⟨g, 0, none⟩) ∧ Blk wc g 25 #[.int .i64 a, .slice A1 n c1] ∧ wc.ownsRow w.heap.size 3 1 (.slice A1 n c1) n (l.map (Value.int .i64)) ∧ Below w.heap.size w wc ∧ Blk wc w.heap.size 25 #[.int .i64 a, .slice A n c] ∧ Blk wc (w.heap.size + 1) 25 #[.int .i64 0, .slice none 0 0] ∧ w.heap.size + 1 < g)
  case first =>
    go_region_law (refine step_append_sl (enc := encI) (by rfl) _ _ 23 (by rfl) w.heap.size 3 i0 (.int .i64 0) 1 8 Try.underlying23 hi0 hz0 hz1 hz2 rfl (by decide) (.slice none 0 0) 0 [] (by rfl) (World.ownsRow_nil _ _ _ _) A n c l (by rfl) (fun _ => rfl) (by first | exact h1 | exact h1.dr | exact h1.drN _ | exact h1.al _ | exact (h1.al _).dr | exact (h1.dr).al _) one_I (by unfold maxLen; omega) (by omega) (by first | omega | (simp; omega)) ?_; intro v3 w3 ho3 hg3 hl3; obtain ⟨A3, c3, rfl⟩ := own_form ho3; rw [flat_encI] at ho3; have kb3 := Blk.gr (by first | exact kb | exact kb.dr | exact kb.al _ | exact (kb.al _).dr | exact (kb.dr).al _) hg3 (by simp [Value.ownBlock]); have kr3 := Blk.gr (by first | exact kr | exact kr.dr | exact kr.al _ | exact (kr.al _).dr | exact (kr.dr).al _) hg3 (by simp [Value.ownBlock]); have cb3 := kb3.cell; try (have kg3 := Blk.gr (by first | exact Blk.new w1 25 #[.int .i64 0, .slice none 0 0] | exact (Blk.new w1 25 #[.int .i64 0, .slice none 0 0]).dr) hg3 (by simp [Value.ownBlock]); have cg3 := kg3.cell; have fg3 := kg3.frozen))
    all_goals (go_wp2_with fail; go_meet)
    all_goals case rel =>
      have hz3 := hg3.size
      simp at hz3
      have ho4 : w3.ownsRow w.heap.size 3 1 (.slice A3 n c3) n (l.map (Value.int .i64)) := by simpa using ho3
      have hb3 : Below w.heap.size w w3 := by
        first
          | exact Below.grown hw1 hg3 (by omega) (fun j hj => by cases hj)
          | exact Below.grown (bel_dr hw1) hg3 (by simp; omega) (fun j hj => by cases hj)
          | exact Below.grown (bel_al hw1 _) hg3 (by simp; omega) (fun j hj => by cases hj)
          | exact Below.grown (bel_dr (bel_al hw1 _)) hg3 (by simp; omega) (fun j hj => by cases hj)
          | exact Below.grown (bel_al (bel_dr hw1) _) hg3 (by simp; omega) (fun j hj => by cases hj)
      first
        | exact ⟨w3.heap.size, A3, c3, rfl, Blk.new w3 25 #[.int .i64 a, .slice A3 n c3], ho4.alloc _, bel_al hb3 _, kb3.al _, kr3.al _, by omega⟩
        | exact ⟨w1.heap.size, A3, c3, rfl, by simpa using (kg3.set_ 0 (.int .i64 a)).set_ 1 (.slice A3 n c3), own_cell (own_cell ho4 kg3 (by decide) 0 _) (kg3.set_ 0 (.int .i64 a)) (by decide) 1 _, bel_set (bel_set hb3 (by simp; omega) _) (by simp; omega) _, (kb3.far (by simp; omega) _).far (by simp; omega) _, (kr3.far (by simp; omega) _).far (by simp; omega) _, by omega⟩
  case rest =>
    obtain ⟨g, A1, c1, rfl, hG, hown, hbc, hB, hR, hgz⟩ := hcut
    clear cb fb cr fr hb1 kb kr
    have cB := hB.cell
    have fB := hB.frozen
    have hhc := h.bel hbc
    go_wp2_with fail
    refine (implHas_c a A n c l x _ (by first | exact hhc | exact hhc.dr | exact hhc.drN _)).mono ?_
    rintro e w4 ⟨rfl, hb4⟩
    have hG := hG.bel hb4
    have hB := hB.bel hb4
    have hR := hR.bel hb4
    have hown := own_bel hown hb4
    have hbw := bel_nx hbc hb4
    clear cB fB hhc hb4 hbc
    have cG := hG.cell
    have fG := hG.frozen
    have cR := hR.cell
    have fR := hR.frozen
    have HX : Hid (1 ≤ x ∧ x ≤ 999) := Lib.hid ⟨by omega, by omega⟩
    cases hh : hasB a l x
    · have HH := Lib.hid hh
      have hxl : x ∉ l := fun e => (has_not.1 hh) (.inr e)
      have hlb := (inb_iff.1 HV.out).2.2.2.1
      have hpw := (inb_iff.1 HV.out).2.2.2.2
      have HPE := Lib.hid (put_eq hpw hxl)
      have HA9 : Hid (∀ z ∈ putZ l x, z ≤ 999) := Lib.hid (fun z hz => by
        rcases mem_put.1 hz with rfl | hz
        · exact HX.out.2
        · exact (hlb z hz).2)
      have HPL := Lib.hid (put_len x l)
      have HPW := Lib.hid hpw
      clear hh hxl hlb hpw
      go_wp2_with fail
      refine (search_c A1 n c1 l x _ (SlI.of_own hown) HPW.out (by omega)).mono ?_
      rintro e w5 ⟨t, rfl, hb5⟩
      have hG := hG.bel hb5
      have hB := hB.bel hb5
      have hR := hR.bel hb5
      have hown := own_bel hown hb5
      have hbw := bel_nx hbw hb5
      clear cG fG cR fR hb5
      have cG := hG.cell
      have fG := hG.frozen
      obtain ⟨i, hi⟩ : ∃ i, i = l.countP (· < x) := ⟨_, rfl⟩
      have hil : i ≤ n := by rw [hi, ← HL.out]; exact List.countP_le_length
      have HI := Lib.hid hi
      rw [← hi]
      clear hi
      go_wp2_with fail
      have hsz := hbw.size
      have kx := Blk.new w5 3 #[.int .i64 x]
      have hnx : (Value.slice A1 n c1).ownBlock ≠ some w5.heap.size := fun e => by have := (hown.lt _ e).2; omega
      have hng : some g ≠ (Value.slice A1 n c1).ownBlock := fun e => own_ne_blk hown hG (by decide) e.symm
      have hnr : some (w.heap.size + 1) ≠ (Value.slice A1 n c1).ownBlock := fun e => own_ne_blk hown hR (by decide) e.symm
      have hlow := hown.lt
      refine (insert_c w.heap.size A1 n c1 i w5.heap.size l x _ (hown.alloc _) kx hnx hil (by omega) (by simp; omega)).mono ?_
      rintro e w6 ⟨A2, c2, rfl, ho2, hg6⟩
      have hG := (hG.al (.cells #[.int .i64 x] 3)).gr hg6 hng
      have hR := (hR.al (.cells #[.int .i64 x] 3)).gr hg6 hnr
      have hbw := (bel_al hbw (.cells #[.int .i64 x] 3)).grown hg6 (by simp; omega) (fun j hj => (hlow j hj).1)
      rw [HI.out, HPE.out] at ho2
      have hs0 := SlI.of_own ho2
      have hA2 : ∀ q, A2 = some q → q.block ≠ g := fun q hq e => own_ne_blk ho2 hG (by decide) (by rw [hq, ← e]; rfl)
      clear cG fG kx hnx hng hnr hown hlow hg6 hsz ho2 hB h1 hw1
      go_wp2_with fail
      go_loopw [10] (fun s wr => ∃ (A' : Option Addr) (m' c' : Nat) (a' : Int) (out : List Int), s = .slice A' m' c' ∧ SlI wr A' m' c' out ∧ Hid (absorb a' out = absorb a (putZ l x)) ∧ Hid (∀ z ∈ out, z ≤ 999) ∧ Hid (∀ q, A' = some q → q.block ≠ g) ∧ m' ≤ 7 ∧ 0 ≤ a' ∧ a' ≤ 999 ∧ Blk wr g 25 #[.int .i64 a', .slice A1 n c1] ∧ Blk wr (w.heap.size + 1) 25 #[.int .i64 0, .slice none 0 0] ∧ Below w.heap.size w wr) (fun s _ => (lenOf s).toNat)
      case atStart => exact ⟨A2, n + 1, c2, a, putZ l x, rfl, hs0, Lib.hid rfl, HA9, Lib.hid hA2, by omega, ha0.1, ha0.2, hG, hR, hbw⟩
      case round =>
        obtain ⟨A', m', c', a', out, rfl, hs, HAB, HO9, HNE, hm7, ha1, ha9, hG, hR, hbr⟩ := hrel
        have HOL := Lib.hid hs.len
        have hcap' := hs.cap
        have hmax' := hs.max
        have cG := hG.cell
        have fG := hG.frozen
        have cR := hR.cell
        have fR := hR.frozen
        have hwa : IntKind.i64.wrap (a' + 1) = a' + 1 := by rw [IntKind.wrap_i64]; omega
        by_cases hgo : ∃ y r, out = y :: r ∧ y = a' + 1
        · obtain ⟨y, r, rfl, hy⟩ := hgo
          obtain ⟨p, rfl⟩ : ∃ p, m' = p + 1 := ⟨m' - 1, by have := HOL.out; simp at this; omega⟩
          obtain ⟨b, off, z, rfl, hz, hcz⟩ := SlI.get hs (i := 0) (by omega)
          obtain rfl : y = z := by simpa using hz
          clear hz
          rw [Nat.add_zero] at hcz
          have HY := Lib.hid hy
          have hy9 : y ≤ 999 := HO9.out y (by simp)
          have hp0 : (0 : Int) < ((p + 1 : Nat) : Int) := by omega
          have dp0 : decide ((0 : Int) < ((p + 1 : Nat) : Int)) = true := decide_eq_true hp0
          have dp1 : decide ((0 : Int) < (p : Int) + 1) = true := decide_eq_true (by omega)
          have dy : (y == a' + 1) = true := by simpa using hy
          have hsD := Sl.drop hs (m := 1) (by omega)
          rw [Nat.mul_one] at hsD
          obtain ⟨AD, hAD⟩ : ∃ AD, (if c' = 1 then some (⟨b, off, none⟩ : Addr) else some ⟨b, off + 1, none⟩) = AD := ⟨_, rfl⟩
          rw [hAD] at hsD
          have hneD : ∀ q, AD = some q → q.block ≠ g := fun q hq => by
            have := HNE.out _ rfl
            rw [← hAD] at hq
            split at hq <;> (cases hq; exact this)
          have HND := Lib.hid hneD
          have hsE : SlI wr AD p (c' - 1) r := by simpa using hsD
          clear hy hneD hsD
          go_wp2_with fail
          go_quiet (fail)
          go_wp2_with fail
          go_roundw
          case rel => exact ⟨AD, p, c' - 1, a' + 1, r, rfl, (hsE.drN nq).gr (gr_cell _ g 0 _) HND.out, Lib.hid ((absorb_go HY.out).symm.trans HAB.out), Lib.hid (fun z hz => HO9.out z (by simp [hz])), HND, by omega, by omega, by have := HY.out; omega, by simpa using (hG.drN nq).set_ 0 (.int .i64 (a' + 1)), (hR.drN nq).far (by simp; omega) _, bel_set (bel_drN hbr nq) (by simp; omega) _⟩
          case measure => simp [lenOf]
        · have HF : Hid (absorb a (putZ l x) = (a', out)) := Lib.hid (by
            rw [← HAB.out]
            rcases out with _ | ⟨y, r⟩
            · rfl
            · exact absorb_stop (fun e => hgo ⟨y, r, rfl, e⟩))
          have hsz := hbr.size
          rcases Nat.eq_zero_or_pos m' with rfl | hpos
          · clear hgo
            go_wp2_with fail
            go_quiet (fail)
            go_wp2_with (at_builtin; refine wpList_append_sl (enc := encI) rfl _ _ 23 rfl w.heap.size 3 i0 (.int .i64 0) 1 8 Try.underlying23 hi0 hz0 hz1 hz2 rfl (by decide) (.slice none 0 0) 0 [] rfl (World.ownsRow_nil _ _ _ _) _ _ _ _ rfl (fun _ => rfl) (hs.drN nq) one_I (by unfold maxLen; omega) (by omega) (by simp; omega) ?_; intro v7 w7 ho7 hg7 hl7; simp only [Nat.zero_add, List.nil_append, flat_encI] at ho7; obtain ⟨A7, c7, rfl⟩ := own_form ho7; have hG7 := (hG.drN nq).gr hg7 (by simp [Value.ownBlock]); have cG7 := hG7.cell; have fG7 := hG7.frozen)
            have hG8 := hG7.set_ 1 (.slice A7 0 c7)
            have hR7 := (hR.drN nq).gr hg7 (by simp [Value.ownBlock])
            have hR8 := hR7.far (p := ⟨g, 1, none⟩) (by simp; omega) (.slice A7 0 c7)
            have ho8 := own_cell ho7 hG7 (by decide) 1 (.slice A7 0 c7)
            have hb7 := Below.grown (bel_drN hbr nq) hg7 (by simp; omega) (fun j hj => by cases hj)
            have hb8 := bel_set hb7 (p := ⟨g, 1, none⟩) (by simp; omega) (.slice A7 0 c7)
            refine (implInboxValid_c a' A7 0 c7 _ _ (SlI.of_own ho8) (by omega) (by omega)).mono ?_
            rintro e w9 ⟨rfl, hb9⟩
            have hG9 := hG8.bel hb9
            have hR9 := hR8.bel hb9
            have ho9 := own_bel ho8 hb9
            have hb9' := bel_nx hb8 hb9
            clear cG fG cR fR cG7 fG7 hG7 hR7 hb7 hG8 hR8 ho8 ho7 hb8 hb9 hG hR
            have cG := hG9.cell
            have fG := hG9.frozen
            have cR := hR9.cell
            have fR := hR9.frozen
            obtain ⟨bv, hv⟩ : ∃ bv, inbB a' out = bv := ⟨_, rfl⟩
            rw [hv]
            cases bv
            · have HT : Hid (takeF a l x = (0, [], false, false)) := Lib.hid (by rw [takeF_new HV.out HX.out HH.out HF.out, if_neg (by simp [hv])])
              clear hv
              go_wp2_with fail
              have kz := (hR9.set_ 0 (.int .i64 0)).set_ 1 (.slice none 0 0)
              have cz := kz.cell
              rw [HT.out]
              refine bodyPost_ret (v := .tuple #[.agg #[.int .i64 0, .slice none 0 0], .bool false, .bool false]) (by simp [results, Try.results33, go_sem, cz]) rfl ⟨none, 0, 0, rfl, World.ownsRow_nil _ _ _ _, ?_⟩
              exact bel_set (bel_set hb9' (by simp) _) (by simp) _
            · have HT : Hid (takeF a l x = (a', out, true, true)) := Lib.hid (by rw [takeF_new HV.out HX.out HH.out HF.out, if_pos hv])
              clear hv
              go_wp2_with fail
              have kz := (hR9.set_ 0 (.int .i64 a')).set_ 1 (.slice A7 0 c7)
              have cz := kz.cell
              rw [HT.out]
              refine bodyPost_ret (v := .tuple #[.agg #[.int .i64 a', .slice A7 0 c7], .bool true, .bool true]) (by simp [results, Try.results33, go_sem, cz]) rfl ⟨A7, 0, c7, rfl, own_cell (own_cell ho9 hR9 (by decide) 0 _) (hR9.set_ 0 (.int .i64 a')) (by decide) 1 _, ?_⟩
              exact bel_set (bel_set hb9' (by simp) _) (by simp) _
          · obtain ⟨y, r, rfl⟩ : ∃ y r, out = y :: r := by
              rcases out with _ | ⟨y, r⟩
              · have := HOL.out; simp at this; omega
              · exact ⟨y, r, rfl⟩
            obtain ⟨b, off, z, rfl, hz, hcz⟩ := SlI.get hs (i := 0) (by omega)
            obtain rfl : y = z := by simpa using hz
            clear hz
            rw [Nat.add_zero] at hcz
            have hp0 : (0 : Int) < (m' : Int) := by omega
            have dp0 : decide ((0 : Int) < (m' : Int)) = true := decide_eq_true hp0
            have dy : (y == a' + 1) = false := by simpa using fun e => hgo ⟨y, r, rfl, e⟩
            clear hgo
            go_wp2_with fail
            go_quiet (fail)
            go_wp2_with (at_builtin; refine wpList_append_sl (enc := encI) rfl _ _ 23 rfl w.heap.size 3 i0 (.int .i64 0) 1 8 Try.underlying23 hi0 hz0 hz1 hz2 rfl (by decide) (.slice none 0 0) 0 [] rfl (World.ownsRow_nil _ _ _ _) _ _ _ _ rfl (fun _ => rfl) (hs.drN nq) one_I (by unfold maxLen; omega) (by omega) (by simp; omega) ?_; intro v7 w7 ho7 hg7 hl7; simp only [Nat.zero_add, List.nil_append, flat_encI] at ho7; obtain ⟨A7, c7, rfl⟩ := own_form ho7; have hG7 := (hG.drN nq).gr hg7 (by simp [Value.ownBlock]); have cG7 := hG7.cell; have fG7 := hG7.frozen)
            have hG8 := hG7.set_ 1 (.slice A7 m' c7)
            have hR7 := (hR.drN nq).gr hg7 (by simp [Value.ownBlock])
            have hR8 := hR7.far (p := ⟨g, 1, none⟩) (by simp; omega) (.slice A7 m' c7)
            have ho8 := own_cell ho7 hG7 (by decide) 1 (.slice A7 m' c7)
            have hb7 := Below.grown (bel_drN hbr nq) hg7 (by simp; omega) (fun j hj => by cases hj)
            have hb8 := bel_set hb7 (p := ⟨g, 1, none⟩) (by simp; omega) (.slice A7 m' c7)
            refine (implInboxValid_c a' A7 m' c7 _ _ (SlI.of_own ho8) (by omega) (by omega)).mono ?_
            rintro e w9 ⟨rfl, hb9⟩
            have hG9 := hG8.bel hb9
            have hR9 := hR8.bel hb9
            have ho9 := own_bel ho8 hb9
            have hb9' := bel_nx hb8 hb9
            clear cG fG cR fR cG7 fG7 hG7 hR7 hb7 hG8 hR8 ho8 ho7 hb8 hb9 hG hR
            have cG := hG9.cell
            have fG := hG9.frozen
            have cR := hR9.cell
            have fR := hR9.frozen
            obtain ⟨bv, hv⟩ : ∃ bv, inbB a' (y :: r) = bv := ⟨_, rfl⟩
            rw [hv]
            cases bv
            · have HT : Hid (takeF a l x = (0, [], false, false)) := Lib.hid (by rw [takeF_new HV.out HX.out HH.out HF.out, if_neg (by simp [hv])])
              clear hv
              go_wp2_with fail
              have kz := (hR9.set_ 0 (.int .i64 0)).set_ 1 (.slice none 0 0)
              have cz := kz.cell
              rw [HT.out]
              refine bodyPost_ret (v := .tuple #[.agg #[.int .i64 0, .slice none 0 0], .bool false, .bool false]) (by simp [results, Try.results33, go_sem, cz]) rfl ⟨none, 0, 0, rfl, World.ownsRow_nil _ _ _ _, ?_⟩
              exact bel_set (bel_set hb9' (by simp) _) (by simp) _
            · have HT : Hid (takeF a l x = (a', (y :: r), true, true)) := Lib.hid (by rw [takeF_new HV.out HX.out HH.out HF.out, if_pos hv])
              clear hv
              go_wp2_with fail
              have kz := (hR9.set_ 0 (.int .i64 a')).set_ 1 (.slice A7 m' c7)
              have cz := kz.cell
              rw [HT.out]
              refine bodyPost_ret (v := .tuple #[.agg #[.int .i64 a', .slice A7 m' c7], .bool true, .bool true]) (by simp [results, Try.results33, go_sem, cz]) rfl ⟨A7, m', c7, rfl, own_cell (own_cell ho9 hR9 (by decide) 0 _) (hR9.set_ 0 (.int .i64 a')) (by decide) 1 _, ?_⟩
              exact bel_set (bel_set hb9' (by simp) _) (by simp) _
    · have HF := Lib.hid (takeF_has HV.out HX.out hh)
      clear hh
      go_wp2_with fail
      have kz := (hR.set_ 0 (.int .i64 a)).set_ 1 (.slice A1 n c1)
      have cz := kz.cell
      rw [HF.out]
      refine bodyPost_ret (v := .tuple #[.agg #[.int .i64 a, .slice A1 n c1], .bool false, .bool true]) (by simp [results, Try.results33, go_sem, cz]) rfl ⟨A1, n, c1, rfl, own_cell (own_cell hown hR (by decide) 0 _) (hR.set_ 0 (.int .i64 a)) (by decide) 1 _, ?_⟩
      exact bel_set (bel_set hbw (by simp) _) (by simp) _

end Go.Proofs.Ytdcojlbekpcejaa
