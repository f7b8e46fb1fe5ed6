/- Safe flows by the program: UndoSafe. -/
import Derived.Test.YtdchfiiaollheaaBehI
import Derived.Test.YtdchfiiaollheaaUndo1
import Derived.Deep.RegionHeld3
import Derived.Deep.Cut
import Derived.Deep.Light
namespace Go.Proofs.Ytdchfiiaollheaa
open Go.RowKit

/-- The first k steps are found to be safe, by the program. -/
def SafeQ (v : Int) (l : List Stp) (k : Nat) : Prop := ∀ (j : Nat) (p : Stp), j < k → l[j]? = some p → p.undo = false → ∀ q ∈ l, q.name ≠ p.name → behB v l q.name p.name = true
def SafeR (v : Int) (l : List Stp) (nm : ByteArray) (k : Nat) : Prop := ∀ (j : Nat) (q : Stp), j < k → l[j]? = some q → q.name ≠ nm → behB v l q.name nm = true
theorem safeQ_all {v : Int} {l : List Stp} {n : Nat} (hf : flowB v l = true) (h : SafeQ v l n) (hn : l.length ≤ n) : safeB v l = true := by
  refine safeB_iff.2 ⟨hf, fun p hp hu q hq hne => (behB_iff hf).1 ?_⟩
  obtain ⟨j, hj, rfl⟩ := List.mem_iff_getElem.1 hp
  exact h j _ (by omega) (List.getElem?_eq_getElem hj) hu q hq hne
theorem safeQ_next {v : Int} {l : List Stp} {k : Nat} {p : Stp} (h : SafeQ v l k) (hx : l[k]? = some p) (hp : p.undo = false → ∀ q ∈ l, q.name ≠ p.name → behB v l q.name p.name = true) : SafeQ v l (k + 1) := fun j q hj hq hu => by
  rcases Nat.lt_or_ge j k with r | r
  · exact h j q r hq hu
  · have e : j = k := by omega
    subst e
    rw [hx] at hq
    cases hq
    exact hp hu
theorem safeR_next {v : Int} {l : List Stp} {nm : ByteArray} {k : Nat} {p : Stp} (h : SafeR v l nm k) (hx : l[k]? = some p) (hp : p.name ≠ nm → behB v l p.name nm = true) : SafeR v l nm (k + 1) := fun j q hj hq hne => by
  rcases Nat.lt_or_ge j k with r | r
  · exact h j q r hq hne
  · have e : j = k := by omega
    subst e
    rw [hx] at hq
    cases hq
    exact hp hne
theorem safeR_all {v : Int} {l : List Stp} {nm : ByteArray} {n : Nat} (h : SafeR v l nm n) (hn : l.length ≤ n) : ∀ q ∈ l, q.name ≠ nm → behB v l q.name nm = true := fun q hq hne => by
  obtain ⟨j, hj, rfl⟩ := List.mem_iff_getElem.1 hq
  exact h j _ (by omega) (List.getElem?_eq_getElem hj) hne
theorem haveB_one {m : List ByteArray} {x : ByteArray} {b : Bool} (h : inB m x = b) : haveB m [x] = b := by simp [haveB, h]

set_option maxRecDepth 20000 in
set_option maxHeartbeats 8000000 in
theorem implUndoSafe_c (v : Int) (A : Option Addr) (n c : Nat) (l : List Stp) (w : World) (h : SlP w A n c l) (hz : SzP l) : Calls Try.prog 16 #[.agg #[.int .i64 v, .slice A n c]] w fun e w' =>
    e = .returned (.bool (safeB v l)) ∧ Below w.heap.size w w' := by
  have HL := Lib.hid h.len
  have hcap := h.cap
  have hmax := h.max
  have kf := Blk.new w 25 #[.int .i64 v, .slice A n c]
  have hW := bel_al (bel_refl w) (.cells #[.int .i64 v, .slice A n c] 25)
  go_enter Try.func16, Try.ntmps16
  go_wp2_with fail
  refine (implFlowValid_c v A n c l _ (h.bel hW) hz).mono ?_
  rintro e w1 ⟨rfl, hb1⟩
  have kf1 := kf.bel hb1
  have hW1 := bel_nx hW hb1
  have cf1 := kf1.cell
  clear kf
  cases hv : flowB v l
  · have HF := Lib.hid (safeB_no0 hv)
    clear hv
    go_wp2_with fail
    go_ret
    exact ⟨ret_bool HF.out.symm, hW1⟩
  have HV := Lib.hid hv
  clear hv
  go_wp2_with fail
  go_loopw [13] (fun iv wr => ∃ k : Nat, k ≤ n ∧ iv = .int .i64 (k : Int) ∧ Hid (SafeQ v l k) ∧ Blk wr w.heap.size 25 #[.int .i64 v, .slice A n c] ∧ Below w.heap.size w wr) (fun iv _ => n - (intOf iv).toNat)
  case atStart => exact ⟨0, Nat.zero_le _, rfl, Lib.hid (fun j p hj => by omega), kf1, hW1⟩
  case round =>
    obtain ⟨k, hk, rfl, HK, kfL, hbr⟩ := hrel
    clear cf1
    by_cases hlt : k < n
    · have k0 : (0 : Int) ≤ (k : Int) := by omega
      have k1 : (k : Int) < (n : Int) := by omega
      obtain ⟨b, off, nm, B, m, d, af, u, hA, hx, hc0w, hc1w, hc2w, _⟩ := SlP.get h hlt
      subst hA
      have hc0 := cell_on hbr hc0w
      have hc1 := cell_on hbr hc1w
      have hc2 := cell_on hbr hc2w
      have HX := Lib.hid hx
      clear hx hc0w hc1w hc2w
      obtain ⟨g1, hg1⟩ : ∃ g, g = wr.heap.size := ⟨_, rfl⟩
      have kA := Blk.new wr 30 #[.string nm, .slice B m d, .bool u]
      have kfA := kfL.al (.cells #[.string nm, .slice B m d, .bool u] 30)
      have hbA := bel_al hbr (.cells #[.string nm, .slice B m d, .bool u] 30)
      have cfA := kfA.cell
      cases u
      · rw [← hg1] at kA
        have HG := Lib.hid hg1
        clear hg1
        go_wp2_with fail
        rw [← HG.out]
        go_loopw [22] (fun jv wq => ∃ j : Nat, j ≤ n ∧ jv = .int .i64 (j : Int) ∧ Hid (SafeR v l nm j) ∧ Blk wq w.heap.size 25 #[.int .i64 v, .slice (some ⟨b, off, none⟩) n c] ∧ Blk wq g1 30 #[.string nm, .slice B m d, .bool false] ∧ Below w.heap.size w wq) (fun jv _ => n - (intOf jv).toNat)
        case atStart => exact ⟨0, Nat.zero_le _, rfl, Lib.hid (fun j p hj => by omega), kfA, kA, hbA⟩
        case round =>
          obtain ⟨j, hj, rfl, HR, kfQ, kgQ, hbQ⟩ := hrel
          clear cfA
          by_cases hltj : j < n
          · have j0 : (0 : Int) ≤ (j : Int) := by omega
            have j1 : (j : Int) < (n : Int) := by omega
            obtain ⟨b', off', tn, B', m', d', af', u', hA', hx', hd0w, hd1w, hd2w, _⟩ := SlP.get h hltj
            obtain ⟨rfl, rfl⟩ : b = b' ∧ off = off' := by simpa using hA'
            have hd0 := cell_on hbQ hd0w
            have hd1 := cell_on hbQ hd1w
            have hd2 := cell_on hbQ hd2w
            have HXT := Lib.hid hx'
            have htn := (szP_at hz hx').1
            clear hx' hd0w hd1w hd2w hA'
            obtain ⟨g2, hg2⟩ : ∃ g, g = wr.heap.size := ⟨_, rfl⟩
            have k2 := Blk.new wr 30 #[.string tn, .slice B' m' d', .bool u']
            have k1 := kgQ.al (.cells #[.string tn, .slice B' m' d', .bool u'] 30)
            have kf2 := kfQ.al (.cells #[.string tn, .slice B' m' d', .bool u'] 30)
            have hb2 := bel_al hbQ (.cells #[.string tn, .slice B' m' d', .bool u'] 30)
            obtain ⟨W, hWW⟩ : ∃ W, W = wr.alloc (.cells #[.string tn, .slice B' m' d', .bool u'] 30) := ⟨_, rfl⟩
            go_upto_region 10 with fail
            rw [← hg2] at k2
            rw [← hg2, ← hWW]
            rw [← hWW] at k2 k1 kf2 hb2
            clear hg2 hWW
            by_cases hne : tn = nm
            · have e1 : (tn.toList == nm.toList) = true := beqS_yes hne
              have e2 : (tn.toList != nm.toList) = false := by rw [bne, e1]; rfl
              have HN := Lib.hid (safeR_next HR.out HXT.out (fun hh => absurd hne hh))
              clear hne
              refine wp_region_held_drew (S := (fun w' => w'.cell? ⟨g2, 0, none⟩ = some (.string tn) ∧ w'.cell? ⟨g1, 0, none⟩ = some (.string nm))) (by kernel_rfl) ?_ (fun hHeld => ?_)
              · exact ⟨k2.cell 0, k1.cell 0⟩
              refine wpAnyH_take (i := 0) (v := ?_) rfl (by kernel_rfl) (by kernel_rfl) (by kernel_rfl) (fun _ _ _ h => h) (Or.inl ⟨by kernel_rfl, ?_⟩) (by assumption) ?_
              rotate_left 1
              · intro w' hSw; (try dsimp only at hSw); go_simp; try with_reducible rfl
              simp only [Act.put, List.getElem_toArray, List.getElem_cons_zero, List.setIfInBounds_toArray, List.set_cons_zero, List.set_cons_succ]
              refine wpAnyH_take (i := 1) (v := ?_) rfl (by kernel_rfl) (by kernel_rfl) (by kernel_rfl) (fun _ _ _ h => h) (Or.inl ⟨by kernel_rfl, ?_⟩) (by assumption) ?_
              rotate_left 1
              · intro w' hSw; (try dsimp only at hSw); go_simp; try with_reducible rfl
              simp only [Act.put, List.getElem_toArray, List.getElem_cons_zero, List.getElem_cons_succ, List.setIfInBounds_toArray, List.set_cons_zero, List.set_cons_succ]
              refine wpAnyH_take (i := 2) (v := ?_) rfl (by kernel_rfl) (by kernel_rfl) (by kernel_rfl) (fun _ _ _ h => h) (Or.inl ⟨by kernel_rfl, ?_⟩) (by assumption) ?_
              rotate_left 1
              · intro w' hSw; (try dsimp only at hSw); go_simp; try with_reducible rfl
              simp only [Act.put, List.getElem_toArray, List.getElem_cons_zero, List.getElem_cons_succ, List.setIfInBounds_toArray, List.set_cons_zero, List.set_cons_succ]
              refine wpAnyH_take (i := 3) (v := ?_) rfl (by kernel_rfl) (by kernel_rfl) (by kernel_rfl) (fun _ _ _ h => h) (Or.inl ⟨by kernel_rfl, ?_⟩) (by assumption) ?_
              rotate_left 1
              · intro w' hSw; (try dsimp only at hSw); go_simp; try with_reducible rfl
              simp only [Act.put, List.getElem_toArray, List.getElem_cons_zero, List.getElem_cons_succ, List.setIfInBounds_toArray, List.set_cons_zero, List.set_cons_succ]
              refine wpAnyH_take (i := 4) (v := ?_) rfl (by kernel_rfl) (by kernel_rfl) (by kernel_rfl) (fun _ _ _ h => h) (Or.inl ⟨by kernel_rfl, ?_⟩) (by assumption) ?_
              rotate_left 1
              · intro w' hSw; (try dsimp only at hSw); go_simp; try with_reducible rfl
              simp only [Act.put, List.getElem_toArray, List.getElem_cons_zero, List.getElem_cons_succ, List.setIfInBounds_toArray, List.set_cons_zero, List.set_cons_succ]
              refine wpAnyH_take (i := 5) (v := ?_) rfl (by kernel_rfl) (by kernel_rfl) (by kernel_rfl) (fun _ _ _ h => h) (Or.inl ⟨by kernel_rfl, ?_⟩) (by assumption) ?_
              rotate_left 1
              · intro w' hSw; (try dsimp only at hSw); go_simp; try with_reducible rfl
              simp only [Act.put, List.getElem_toArray, List.getElem_cons_zero, List.getElem_cons_succ, List.setIfInBounds_toArray, List.set_cons_zero, List.set_cons_succ]
              refine wpAnyH_take (i := 6) (v := undef) rfl (by kernel_rfl) (by kernel_rfl) (by kernel_rfl) (fun _ _ _ h => h) (Or.inr ⟨by kernel_rfl, rfl⟩) (by assumption) ?_
              simp only [Act.put, List.getElem_toArray, List.getElem_cons_zero, List.getElem_cons_succ, List.setIfInBounds_toArray, List.set_cons_zero, List.set_cons_succ]
              refine wpAnyH_take (i := 7) (v := undef) rfl (by kernel_rfl) (by kernel_rfl) (by kernel_rfl) (fun _ _ _ h => h) (Or.inr ⟨by kernel_rfl, rfl⟩) (by assumption) ?_
              simp only [Act.put, List.getElem_toArray, List.getElem_cons_zero, List.getElem_cons_succ, List.setIfInBounds_toArray, List.set_cons_zero, List.set_cons_succ]
              refine wpAnyH_take (i := 8) (v := undef) rfl (by kernel_rfl) (by kernel_rfl) (by kernel_rfl) (fun _ _ _ h => h) (Or.inr ⟨by kernel_rfl, rfl⟩) (by assumption) ?_
              simp only [Act.put, List.getElem_toArray, List.getElem_cons_zero, List.getElem_cons_succ, List.setIfInBounds_toArray, List.set_cons_zero, List.set_cons_succ]
              refine wpAnyH_take (i := 9) (v := undef) rfl (by kernel_rfl) (by kernel_rfl) (by kernel_rfl) (fun _ _ _ h => h) (Or.inr ⟨by kernel_rfl, rfl⟩) (by assumption) ?_
              simp only [Act.put, List.getElem_toArray, List.getElem_cons_zero, List.getElem_cons_succ, List.setIfInBounds_toArray, List.set_cons_zero, List.set_cons_succ]
              refine wpAnyH_take (i := 10) (v := undef) rfl (by kernel_rfl) (by kernel_rfl) (by kernel_rfl) (fun _ _ _ h => h) (Or.inr ⟨by kernel_rfl, rfl⟩) (by assumption) ?_
              simp only [Act.put, List.getElem_toArray, List.getElem_cons_zero, List.getElem_cons_succ, List.setIfInBounds_toArray, List.set_cons_zero, List.set_cons_succ]
              refine wpAnyH_take (i := 11) (v := undef) rfl (by kernel_rfl) (by kernel_rfl) (by kernel_rfl) (fun _ _ _ h => h) (Or.inr ⟨by kernel_rfl, rfl⟩) (by assumption) ?_
              simp only [Act.put, List.getElem_toArray, List.getElem_cons_zero, List.getElem_cons_succ, List.setIfInBounds_toArray, List.set_cons_zero, List.set_cons_succ]
              refine wpAnyH_take (i := 12) (v := undef) rfl (by kernel_rfl) (by kernel_rfl) (by kernel_rfl) (fun _ _ _ h => h) (Or.inr ⟨by kernel_rfl, rfl⟩) (by assumption) ?_
              simp only [Act.put, List.getElem_toArray, List.getElem_cons_zero, List.getElem_cons_succ, List.setIfInBounds_toArray, List.set_cons_zero, List.set_cons_succ]
              refine wpAnyH_take (i := 13) (v := undef) rfl (by kernel_rfl) (by kernel_rfl) (by kernel_rfl) (fun _ _ _ h => h) (Or.inr ⟨by kernel_rfl, rfl⟩) (by assumption) ?_
              simp only [Act.put, List.getElem_toArray, List.getElem_cons_zero, List.getElem_cons_succ, List.setIfInBounds_toArray, List.set_cons_zero, List.set_cons_succ]
              refine wpAnyH_take (i := 14) (v := undef) rfl (by kernel_rfl) (by kernel_rfl) (by kernel_rfl) (fun _ _ _ h => h) (Or.inr ⟨by kernel_rfl, rfl⟩) (by assumption) ?_
              simp only [Act.put, List.getElem_toArray, List.getElem_cons_zero, List.getElem_cons_succ, List.setIfInBounds_toArray, List.set_cons_zero, List.set_cons_succ]
              refine wpAnyH_take (i := 15) (v := ?_) rfl (by kernel_rfl) (by kernel_rfl) (by kernel_rfl) (fun _ _ _ h => h) (Or.inl ⟨by kernel_rfl, ?_⟩) (by assumption) ?_
              rotate_left 1
              · intro w' hSw; (try dsimp only at hSw); go_simp; try with_reducible rfl
              simp only [Act.put, List.getElem_toArray, List.getElem_cons_zero, List.getElem_cons_succ, List.setIfInBounds_toArray, List.set_cons_zero, List.set_cons_succ]
              refine wpAnyH_done (by kernel_rfl) ?_ _
              go_split_ands
              go_wp2_with fail
              go_roundw
              case rel => exact ⟨j + 1, by omega, by go_num, HN, kf2, k1, bel_dr hb2⟩
              case measure => simp [intOf]; omega
            · have e1 : (tn.toList == nm.toList) = false := beqS_no hne
              have e2 : (tn.toList != nm.toList) = true := by rw [bne, e1]; rfl
              have HNE := Lib.hid hne
              clear hne
              obtain ⟨bq, hbq⟩ : ∃ x, behB v l tn nm = x := ⟨_, rfl⟩
              have HB := Lib.hid hbq
              clear hbq
              have x0 : W.cell? ⟨g2, 0, none⟩ = some (.string tn) := k2.cell 0
              have x1 : W.cell? ⟨g1, 0, none⟩ = some (.string nm) := k1.cell 0
              have x2 : W.cell? ⟨w.heap.size, 0, none⟩ = some (.int .i64 v) := kf2.cell 0
              have x3 : W.cell? ⟨w.heap.size, 1, none⟩ = some (.slice (some ⟨b, off, none⟩) n c) := kf2.cell 1
              have xs : W.drew.cell? ⟨g2, 0, none⟩ = some (.string tn) ∧ W.drew.cell? ⟨g1, 0, none⟩ = some (.string nm) ∧ W.drew.cell? ⟨w.heap.size, 0, none⟩ = some (.int .i64 v) ∧ W.drew.cell? ⟨w.heap.size, 1, none⟩ = some (.slice (some ⟨b, off, none⟩) n c) := ⟨x0, x1, x2, x3⟩
              have xt : (W.alloc (.cells #[.string nm] 9)).drew.cell? ⟨g2, 0, none⟩ = some (.string tn) ∧ (W.alloc (.cells #[.string nm] 9)).drew.cell? ⟨g1, 0, none⟩ = some (.string nm) ∧ (W.alloc (.cells #[.string nm] 9)).drew.cell? ⟨w.heap.size, 0, none⟩ = some (.int .i64 v) ∧ (W.alloc (.cells #[.string nm] 9)).drew.cell? ⟨w.heap.size, 1, none⟩ = some (.slice (some ⟨b, off, none⟩) n c) := ⟨cell_al x0 _, cell_al x1 _, cell_al x2 _, cell_al x3 _⟩
              have hsl : SlS (W.alloc (.cells #[.string nm] 9)) (some ⟨W.heap.size, 0, none⟩) 1 1 [nm] := Sl.one (enc := encS) (Blk.new W 9 #[.string nm])
              have hbl : Below W.heap.size W (W.alloc (.cells #[.string nm] 9)).drew := bel_dr (bel_al (bel_refl W) _)
              go_region_held3 (fun w' => w'.cell? ⟨g2, 0, none⟩ = some (.string tn) ∧ w'.cell? ⟨g1, 0, none⟩ = some (.string nm) ∧ w'.cell? ⟨w.heap.size, 0, none⟩ = some (.int .i64 v) ∧ w'.cell? ⟨w.heap.size, 1, none⟩ = some (.slice (some ⟨b, off, none⟩) n c)) (first | with_reducible exact xs | with_reducible exact xt | with_reducible exact ys | with_reducible exact ⟨cell_al ys.1 _, cell_al ys.2.1 _, cell_al ys.2.2.1 _, cell_al ys.2.2.2 _⟩) ((first
                | (go_at_call 54; refine (implFlowBehind_c v (some ⟨b, off, none⟩) n c l tn _ (by first | with_reducible exact (h.bel hb2).dr | with_reducible exact ((h.bel hb2).al _).dr) hz htn).mono ?_; rintro e w5 ⟨DB, dnB, dcB, mB, rfl, hDB, hIB, hb5⟩; have hb5' : Below W.heap.size W w5 := (by first | with_reducible exact bel_nx (bel_dr (bel_refl W)) hb5 | with_reducible exact bel_nx hbl hb5); have ys : w5.cell? ⟨g2, 0, none⟩ = some (.string tn) ∧ w5.cell? ⟨g1, 0, none⟩ = some (.string nm) ∧ w5.cell? ⟨w.heap.size, 0, none⟩ = some (.int .i64 v) ∧ w5.cell? ⟨w.heap.size, 1, none⟩ = some (.slice (some ⟨b, off, none⟩) n c) := ⟨cell_on hb5' x0, cell_on hb5' x1, cell_on hb5' x2, cell_on hb5' x3⟩; (first | (with_reducible have hs5 := Sl.bel (Sl.dr hsl) hb5) | skip))
                | (go_at_call 53; first
                    | (refine (namesHave_b DB (some ⟨W.heap.size, 0, none⟩) dnB dcB 1 1 mB [nm] bq _ (SlS.of_own hDB) hs5 (haveB_one ((hIB nm).trans HB.out))).mono ?_; rintro e w6 ⟨rfl, hw6⟩; subst hw6; have hB6 := hb5')
                    | (refine (namesHave_b DB (some ⟨w5.heap.size, 0, none⟩) dnB dcB 1 1 mB [nm] bq _ ((SlS.of_own hDB).al _) (Sl.one (enc := encS) (Blk.new w5 9 #[.string nm])) (haveB_one ((hIB nm).trans HB.out))).mono ?_; rintro e w6 ⟨rfl, hw6⟩; subst hw6; have hB6 := bel_al hb5' (.cells #[.string nm] 9)))))
              all_goals
                have kf6 := kf2.bel hB6
                have k16 := k1.bel hB6
                have hb6 := bel_nx hb2 hB6
                clear xs xt ys x0 x1 x2 x3
                cases bq
                · have HF := Lib.hid (safeB_no (List.mem_of_getElem? HX.out) (List.mem_of_getElem? HXT.out) rfl HNE.out HB.out)
                  go_wp2_with fail
                  go_ret
                  exact ⟨ret_bool HF.out.symm, hb6⟩
                · have HN := Lib.hid (safeR_next HR.out HXT.out (fun _ => HB.out))
                  go_wp2_with fail
                  go_roundw
                  case rel => exact ⟨j + 1, by omega, by go_num, HN, kf6, k16, hb6⟩
                  case measure => simp [intOf]; omega
          · have HN := Lib.hid (safeQ_next HK.out HX.out (fun _ => safeR_all HR.out (by rw [HL.out]; omega)))
            go_wp2_with fail
            go_roundw
            case rel => exact ⟨k + 1, by omega, by go_num, HN, kfQ, hbQ⟩
            case measure => simp [intOf]; omega
      · have HN := Lib.hid (safeQ_next HK.out HX.out (fun hh => by cases hh))
        go_wp2_with fail
        go_roundw
        case rel => exact ⟨k + 1, by omega, by go_num, HN, kfA, hbA⟩
        case measure => simp [intOf]; omega
    · have HF := Lib.hid (safeQ_all HV.out HK.out (by rw [HL.out]; omega))
      go_wp2_with fail
      go_ret
      exact ⟨ret_bool HF.out.symm, hbr⟩
end Go.Proofs.Ytdchfiiaollheaa
