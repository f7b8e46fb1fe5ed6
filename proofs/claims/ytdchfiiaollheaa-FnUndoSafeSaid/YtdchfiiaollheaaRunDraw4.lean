/- The draw of a flow and a run of it, for the laws on undoing. -/
import Derived.Test.YtdchfiiaollheaaRunDraw3
namespace Go.Proofs.Ytdchfiiaollheaa
open Go.RowKit

theorem OwnQ.set2 {w : World} {B : Nat} {A : Option Addr} {n c : Nat} {l : List Stp} {g : Nat} {t : TypeId} {cs : Array Value} (h : OwnQ w B A n c l) (hb : Blk w g t cs) (h1 : 30 ≠ t) (h2 : 9 ≠ t) (x y : Value) : OwnQ ((w.setCell ⟨g, 0, none⟩ x).setCell ⟨g, 1, none⟩ y) B A n c l :=
  (h.blk hb h1 h2 (gr_cell _ _ _ _)).blk (hb.set_ 0 x) h1 h2 (gr_cell _ _ _ _)
theorem Blk.far2 {w : World} {g g' : Nat} {t : TypeId} {cs : Array Value} (h : Blk w g t cs) (hne : g ≠ g') (x y : Value) : Blk ((w.setCell ⟨g', 0, none⟩ x).setCell ⟨g', 1, none⟩ y) g t cs := (h.far (p := ⟨g', 0, none⟩) hne x).far (p := ⟨g', 1, none⟩) hne y
theorem Blk.set2 {w : World} {g : Nat} {t : TypeId} {a b : Value} (h : Blk w g t #[a, b]) (x y : Value) : Blk ((w.setCell ⟨g, 0, none⟩ x).setCell ⟨g, 1, none⟩ y) g t #[x, y] := (h.set_ 0 x).set_ 1 y
theorem gr_set2 {w W : World} {R g : Nat} (h : w.grownBy W (some R)) (hg : w.heap.size ≤ g) (x y : Value) : w.grownBy ((W.setCell ⟨g, 0, none⟩ x).setCell ⟨g, 1, none⟩ y) (some R) := gr_set (gr_set h (a := ⟨g, 0, none⟩) hg x) (a := ⟨g, 1, none⟩) hg y

set_option maxRecDepth 20000 in
set_option maxHeartbeats 4000000 in
theorem l91Both_c (R q : Nat) (w : World) (h : Rd w R (q + 69)) : Calls Try.prog 63 #[.pointer (some ⟨R, 0, none⟩)] w fun e w' =>
    ∃ (v : Int) (A : Option Addr) (n c : Nat) (l : List Stp) (st : Int) (G : Option Addr) (gn gc : Nat) (done : List ByteArray), e = .returned (.tuple #[.agg #[.int .i64 v, .slice A n c], .agg #[.int .i64 st, .slice G gn gc]]) ∧ OwnQ w' w.heap.size A n c l ∧ Sm5 l ∧ n ≤ 6 ∧ w'.ownsRow w.heap.size 9 1 (.slice G gn gc) gn (done.map Value.string) ∧ gn ≤ 10 ∧ w.grownBy w' (some R) := by
  have hRw := h.lt
  have kz := (Blk.new w 25 #[.int .i64 0, .slice none 0 0]).al (.cells runZ 40)
  have ky := Blk.new (w.alloc (.cells #[.int .i64 0, .slice none 0 0] 25)) 40 runZ
  rw [show (w.alloc (.cells #[.int .i64 0, .slice none 0 0] 25)).heap.size = w.heap.size + 1 by simp] at ky
  have hr0 := (h.al (.cells #[.int .i64 0, .slice none 0 0] 25)).al (.cells runZ 40)
  have hg0 := gr_al (gr_al (gr_refl w (some R)) (.cells #[.int .i64 0, .slice none 0 0] 25)) (.cells runZ 40)
  go_enter Try.func63, Try.ntmps63
  go_wp2_with fail
  refine (l91Flow_c R (q + 20) _ hr0).mono ?_
  rintro e w1 ⟨v, A, n, c, l, rfl, ho1, hn1, hn6, h5, hg1, hr1⟩
  have ho1 := ho1.base (B' := w.heap.size + 2) (by simp)
  have kz1 := kz.grs hg1 (by omega)
  have ky1 := ky.grs hg1 (by omega)
  have hgr1 := gr_nx hg0 hg1
  have hs1 := hgr1.size
  have hly := ky1.lt
  clear kz ky hr0 hg0 hg1
  have kF := Blk.new w1 25 #[.int .i64 v, .slice A n c]
  have kz2 := kz1.al (.cells #[.int .i64 v, .slice A n c] 25)
  have ky2 := ky1.al (.cells #[.int .i64 v, .slice A n c] 25)
  have ho2 := ho1.al (.cells #[.int .i64 v, .slice A n c] 25)
  have hr2 := hr1.al (.cells #[.int .i64 v, .slice A n c] 25)
  have hg2 := gr_al hgr1 (.cells #[.int .i64 v, .slice A n c] 25)
  go_upto_region 2 with fail
  obtain ⟨w2, hw2⟩ : ∃ w2, w2 = w1.alloc (.cells #[.int .i64 v, .slice A n c] 25) := ⟨_, rfl⟩
  have hsz : w1.heap.size < w2.heap.size := by rw [hw2]; simp
  rw [← hw2] at kF kz2 ky2 ho2 hr2 hg2 ⊢
  clear hw2
  have x0 : w2.cell? ⟨w1.heap.size, 0, none⟩ = some (.int .i64 v) := kF.cell 0
  have x1 : w2.cell? ⟨w1.heap.size, 1, none⟩ = some (.slice A n c) := kF.cell 1
  have cz := kz2.cell
  have fz := kz2.frozen
  have cy := ky2.cell
  have fy := ky2.frozen
  have n0 : w1.heap.size ≠ w.heap.size := by omega
  have n1 : w1.heap.size ≠ w.heap.size + 1 := by omega
  have nR : w1.heap.size ≠ R := by omega
  have hRB : R < w.heap.size + 2 := by omega
  have hz := h5.szP
  have kzA : Blk ((w2.setCell ⟨w.heap.size, 0, none⟩ (.int .i64 v)).setCell ⟨w.heap.size, 1, none⟩ (.slice A n c)) w.heap.size 25 #[.int .i64 v, .slice A n c] := (kz2.set_ 0 (.int .i64 v)).set_ 1 (.slice A n c)
  have kyA : Blk ((w2.setCell ⟨w.heap.size, 0, none⟩ (.int .i64 v)).setCell ⟨w.heap.size, 1, none⟩ (.slice A n c)) (w.heap.size + 1) 40 runZ := (ky2.far (by simp) _).far (by simp) _
  have hoA : OwnQ ((w2.setCell ⟨w.heap.size, 0, none⟩ (.int .i64 v)).setCell ⟨w.heap.size, 1, none⟩ (.slice A n c)) (w.heap.size + 2) A n c l := (ho2.blk kz2 (by decide) (by decide) (gr_cell _ _ _ _)).blk (kz2.set_ 0 _) (by decide) (by decide) (gr_cell _ _ _ _)
  have hrA : Rd ((w2.setCell ⟨w.heap.size, 0, none⟩ (.int .i64 v)).setCell ⟨w.heap.size, 1, none⟩ (.slice A n c)) R (q + 20) := (hr2.set_ (by simp; omega) _).set_ (by simp; omega) _
  have hgA : w.grownBy ((w2.setCell ⟨w.heap.size, 0, none⟩ (.int .i64 v)).setCell ⟨w.heap.size, 1, none⟩ (.slice A n c)) (some R) := gr_set (gr_set hg2 (by simp) _) (by simp) _
  go_region_held3 (fun w' => w'.cell? ⟨w1.heap.size, 0, none⟩ = some (.int .i64 v) ∧ w'.cell? ⟨w1.heap.size, 1, none⟩ = some (.slice A n c)) (first | with_reducible exact ⟨cell_dr x0, cell_dr x1⟩ | with_reducible exact ⟨x0, x1⟩ | with_reducible exact ⟨cell_dr (cell_st (cell_st x0 n0 _) n0 _), cell_dr (cell_st (cell_st x1 n0 _) n0 _)⟩ | with_reducible exact ⟨cell_st (cell_st (cell_dr x0) n0 _) n0 _, cell_st (cell_st (cell_dr x1) n0 _) n0 _⟩ | with_reducible exact ⟨y0, y1⟩ | with_reducible exact ⟨cell_st (cell_st y0 n0 _) n0 _, cell_st (cell_st y1 n0 _) n0 _⟩ | with_reducible exact ⟨cell_st (cell_st y0 n1 _) n1 _, cell_st (cell_st y1 n1 _) n1 _⟩ | with_reducible exact ⟨cell_st (cell_st (cell_st (cell_st y0 n0 _) n0 _) n1 _) n1 _, cell_st (cell_st (cell_st (cell_st y1 n0 _) n0 _) n1 _) n1 _⟩ | with_reducible exact ⟨cell_st (cell_st (cell_st (cell_st y0 n1 _) n1 _) n0 _) n0 _, cell_st (cell_st (cell_st (cell_st y1 n1 _) n1 _) n0 _) n0 _⟩) ((go_at_call 91; refine (l91Run_c R q (w.heap.size + 2) v A n c l _ (by first | with_reducible exact ho2.dr | with_reducible exact hoA.dr) hRB hz hn6 (by first | with_reducible exact hr2.dr | with_reducible exact hrA.dr)).mono ?_; rintro e w3 ⟨st, G, gn, gc, done, rfl, hG, hgn, hg3', hr3⟩; have hg3 := first_gr hg3'; (first | (have hgr3 : w.grownBy w3 (some R) := (by with_reducible exact gr_nx hg2 hg3); have ho3 : OwnQ w3 (w.heap.size + 2) A n c l := (by with_reducible exact ho2.gr hg3 hRB); have kz3 := kz2.grs hg3 (by omega); have ky3 := ky2.grs hg3 (by omega); have y0 : w3.cell? ⟨w1.heap.size, 0, none⟩ = some (.int .i64 v) := cell_gr hg3 x0 nR; have y1 : w3.cell? ⟨w1.heap.size, 1, none⟩ = some (.slice A n c) := cell_gr hg3 x1 nR) | (have hgr3 : w.grownBy w3 (some R) := (by with_reducible exact gr_nx hgA hg3); have ho3 : OwnQ w3 (w.heap.size + 2) A n c l := (by with_reducible exact hoA.gr hg3 hRB); have kz3 := kzA.grs hg3 (by omega); have ky3 := kyA.grs hg3 (by omega); have y0 : w3.cell? ⟨w1.heap.size, 0, none⟩ = some (.int .i64 v) := cell_gr hg3 (cell_st (cell_st x0 n0 _) n0 _) nR; have y1 : w3.cell? ⟨w1.heap.size, 1, none⟩ = some (.slice A n c) := cell_gr hg3 (cell_st (cell_st x1 n0 _) n0 _) nR)); have cz3 := kz3.cell; have fz3 := kz3.frozen; have cy3 := ky3.cell; have fy3 := ky3.frozen))
  all_goals
    go_wp2_with fail
    have hB2 : w.heap.size ≤ w2.heap.size := by omega
    have nzy : w.heap.size ≠ w.heap.size + 1 := by omega
    have nyz : w.heap.size + 1 ≠ w.heap.size := by omega
    first
      | (have KZ := (kz3.set2 (.int .i64 v) (.slice A n c)).far2 nzy (.int .i64 st) (.slice G gn gc); have KY := (ky3.far2 nyz (.int .i64 v) (.slice A n c)).set2 (.int .i64 st) (.slice G gn gc); have cKz := KZ.cell; have cKy := KY.cell; refine bodyPost_ret (v := .tuple #[.agg #[.int .i64 v, .slice A n c], .agg #[.int .i64 st, .slice G gn gc]]) (by simp [results, Try.results63, go_sem, cKz, cKy]; done) rfl ?_; go_light; exact ⟨v, A, n, c, l, st, G, gn, gc, done, rfl, ((ho3.set2 kz3 (by decide) (by decide) (.int .i64 v) (.slice A n c)).set2 (ky3.far2 nyz (.int .i64 v) (.slice A n c)) (by decide) (by decide) (.int .i64 st) (.slice G gn gc)).base (by omega), h5, hn6, ownsRow_base (own_cell2 (own_cell2 hG kz3 (by decide)) (ky3.far2 nyz (.int .i64 v) (.slice A n c)) (by decide)) hB2, hgn, gr_set2 (gr_set2 hgr3 (Nat.le_refl _) (.int .i64 v) (.slice A n c)) (by omega) (.int .i64 st) (.slice G gn gc)⟩)
      | (have KZ := (kz3.far2 nzy (.int .i64 st) (.slice G gn gc)).set2 (.int .i64 v) (.slice A n c); have KY := (ky3.set2 (.int .i64 st) (.slice G gn gc)).far2 nyz (.int .i64 v) (.slice A n c); have cKz := KZ.cell; have cKy := KY.cell; refine bodyPost_ret (v := .tuple #[.agg #[.int .i64 v, .slice A n c], .agg #[.int .i64 st, .slice G gn gc]]) (by simp [results, Try.results63, go_sem, cKz, cKy]; done) rfl ?_; go_light; exact ⟨v, A, n, c, l, st, G, gn, gc, done, rfl, ((ho3.set2 ky3 (by decide) (by decide) (.int .i64 st) (.slice G gn gc)).set2 (kz3.far2 nzy (.int .i64 st) (.slice G gn gc)) (by decide) (by decide) (.int .i64 v) (.slice A n c)).base (by omega), h5, hn6, ownsRow_base (own_cell2 (own_cell2 hG ky3 (by decide)) (kz3.far2 nzy (.int .i64 st) (.slice G gn gc)) (by decide)) hB2, hgn, gr_set2 (gr_set2 hgr3 (by omega) (.int .i64 st) (.slice G gn gc)) (Nat.le_refl _) (.int .i64 v) (.slice A n c)⟩)
      | (have KZ := kz3.far2 nzy (.int .i64 st) (.slice G gn gc); have KY := ky3.set2 (.int .i64 st) (.slice G gn gc); have cKz := KZ.cell; have cKy := KY.cell; refine bodyPost_ret (v := .tuple #[.agg #[.int .i64 v, .slice A n c], .agg #[.int .i64 st, .slice G gn gc]]) (by simp [results, Try.results63, go_sem, cKz, cKy]; done) rfl ?_; go_light; exact ⟨v, A, n, c, l, st, G, gn, gc, done, rfl, (ho3.set2 ky3 (by decide) (by decide) (.int .i64 st) (.slice G gn gc)).base (by omega), h5, hn6, ownsRow_base (own_cell2 hG ky3 (by decide)) hB2, hgn, gr_set2 hgr3 (by omega) (.int .i64 st) (.slice G gn gc)⟩)

/-- What the draws of these laws give. -/
def Both (w w' : World) (e : Ending) : Prop :=
    ∃ (v : Int) (A : Option Addr) (n c : Nat) (l : List Stp) (st : Int) (G : Option Addr) (gn gc : Nat) (done : List ByteArray), e = .returned (.tuple #[.agg #[.int .i64 v, .slice A n c], .agg #[.int .i64 st, .slice G gn gc]]) ∧ SlP w' A n c l ∧ Sm5 l ∧ n ≤ 6 ∧ SlS w' G gn gc done ∧ gn ≤ 10 ∧ Below w.heap.size w w'


set_option maxRecDepth 20000 in
set_option maxHeartbeats 1000000 in
theorem drawUndoPoint_c (A : Option Addr) (n c : Nat) (zs : List Int) (w : World) (h : IsRow .u8 w A n c zs) : Calls Try.prog 22 #[.slice A n c] w fun e w' => Both w w' e := by
  have kz := (Blk.new w 25 #[.int .i64 0, .slice none 0 0]).al (.cells runZ 40)
  have ky := Blk.new (w.alloc (.cells #[.int .i64 0, .slice none 0 0] 25)) 40 runZ
  rw [show (w.alloc (.cells #[.int .i64 0, .slice none 0 0] 25)).heap.size = w.heap.size + 1 by simp] at ky
  have hW := bel_al (bel_al (bel_refl w) (.cells #[.int .i64 0, .slice none 0 0] 25)) (.cells runZ 40)
  have h0 := (h.al (.cells #[.int .i64 0, .slice none 0 0] 25)).al (.cells runZ 40)
  go_enter Try.func22, Try.ntmps22
  go_wp2_with fail
  refine (l6Open_c A n c zs _ h0).mono ?_
  rintro e w1 ⟨R, rfl, hrd, hb1, hR⟩
  have kz1 := kz.bel hb1
  have ky1 := ky.bel hb1
  have hW1 := bel_nx hW hb1
  simp at hR
  go_wp2_with fail
  refine (l91Both_c R 931 _ hrd).mono ?_
  rintro e w2 ⟨v, B, m, d, l, st, G, gn, gc, done, rfl, hl, h5, hm, hG, hgn, hg2⟩
  have kz2 := kz1.grs hg2 (by omega)
  have ky2 := ky1.grs hg2 (by omega)
  have hW2 := bel_gr hW1 hg2 (by omega)
  have cz := kz2.cell
  have fz := kz2.frozen
  have cy := ky2.cell
  have fy := ky2.frozen
  go_wp2_with fail
  have nzy : w.heap.size ≠ w.heap.size + 1 := by omega
  have nyz : w.heap.size + 1 ≠ w.heap.size := by omega
  have KZ := (kz2.set2 (.int .i64 v) (.slice B m d)).far2 nzy (.int .i64 st) (.slice G gn gc)
  have KY := (ky2.far2 nyz (.int .i64 v) (.slice B m d)).set2 (.int .i64 st) (.slice G gn gc)
  have cKz := KZ.cell
  have cKy := KY.cell
  refine bodyPost_ret (v := .tuple #[.agg #[.int .i64 v, .slice B m d], .agg #[.int .i64 st, .slice G gn gc]]) (by simp [results, Try.results22, go_sem, cKz, cKy]) rfl ?_
  go_light
  refine ⟨v, B, m, d, l, st, G, gn, gc, done, rfl, ((hl.set2 kz2 (by decide) (by decide) (.int .i64 v) (.slice B m d)).set2 (ky2.far2 nyz (.int .i64 v) (.slice B m d)) (by decide) (by decide) (.int .i64 st) (.slice G gn gc)).read, h5, hm, SlS.of_own (own_cell2 (own_cell2 hG kz2 (by decide)) (ky2.far2 nyz (.int .i64 v) (.slice B m d)) (by decide)), hgn, ?_⟩
  exact bel_set (bel_set (bel_set (bel_set hW2 (by simp) _) (by simp) _) (by simp) _) (by simp) _

set_option maxRecDepth 20000 in
set_option maxHeartbeats 1000000 in
theorem drawUndoLeft_c (A : Option Addr) (n c : Nat) (zs : List Int) (w : World) (h : IsRow .u8 w A n c zs) : Calls Try.prog 30 #[.slice A n c] w fun e w' => Both w w' e := by
  have kz := (Blk.new w 25 #[.int .i64 0, .slice none 0 0]).al (.cells runZ 40)
  have ky := Blk.new (w.alloc (.cells #[.int .i64 0, .slice none 0 0] 25)) 40 runZ
  rw [show (w.alloc (.cells #[.int .i64 0, .slice none 0 0] 25)).heap.size = w.heap.size + 1 by simp] at ky
  have hW := bel_al (bel_al (bel_refl w) (.cells #[.int .i64 0, .slice none 0 0] 25)) (.cells runZ 40)
  have h0 := (h.al (.cells #[.int .i64 0, .slice none 0 0] 25)).al (.cells runZ 40)
  go_enter Try.func30, Try.ntmps30
  go_wp2_with fail
  refine (l6Open_c A n c zs _ h0).mono ?_
  rintro e w1 ⟨R, rfl, hrd, hb1, hR⟩
  have kz1 := kz.bel hb1
  have ky1 := ky.bel hb1
  have hW1 := bel_nx hW hb1
  simp at hR
  go_wp2_with fail
  refine (l91Both_c R 931 _ hrd).mono ?_
  rintro e w2 ⟨v, B, m, d, l, st, G, gn, gc, done, rfl, hl, h5, hm, hG, hgn, hg2⟩
  have kz2 := kz1.grs hg2 (by omega)
  have ky2 := ky1.grs hg2 (by omega)
  have hW2 := bel_gr hW1 hg2 (by omega)
  have cz := kz2.cell
  have fz := kz2.frozen
  have cy := ky2.cell
  have fy := ky2.frozen
  go_wp2_with fail
  have nzy : w.heap.size ≠ w.heap.size + 1 := by omega
  have nyz : w.heap.size + 1 ≠ w.heap.size := by omega
  have KZ := (kz2.set2 (.int .i64 v) (.slice B m d)).far2 nzy (.int .i64 st) (.slice G gn gc)
  have KY := (ky2.far2 nyz (.int .i64 v) (.slice B m d)).set2 (.int .i64 st) (.slice G gn gc)
  have cKz := KZ.cell
  have cKy := KY.cell
  refine bodyPost_ret (v := .tuple #[.agg #[.int .i64 v, .slice B m d], .agg #[.int .i64 st, .slice G gn gc]]) (by simp [results, Try.results30, go_sem, cKz, cKy]) rfl ?_
  go_light
  refine ⟨v, B, m, d, l, st, G, gn, gc, done, rfl, ((hl.set2 kz2 (by decide) (by decide) (.int .i64 v) (.slice B m d)).set2 (ky2.far2 nyz (.int .i64 v) (.slice B m d)) (by decide) (by decide) (.int .i64 st) (.slice G gn gc)).read, h5, hm, SlS.of_own (own_cell2 (own_cell2 hG kz2 (by decide)) (ky2.far2 nyz (.int .i64 v) (.slice B m d)) (by decide)), hgn, ?_⟩
  exact bel_set (bel_set (bel_set (bel_set hW2 (by simp) _) (by simp) _) (by simp) _) (by simp) _

set_option maxRecDepth 20000 in
set_option maxHeartbeats 1000000 in
theorem drawUndoPlan_c (A : Option Addr) (n c : Nat) (zs : List Int) (w : World) (h : IsRow .u8 w A n c zs) : Calls Try.prog 34 #[.slice A n c] w fun e w' => Both w w' e := by
  have kz := (Blk.new w 25 #[.int .i64 0, .slice none 0 0]).al (.cells runZ 40)
  have ky := Blk.new (w.alloc (.cells #[.int .i64 0, .slice none 0 0] 25)) 40 runZ
  rw [show (w.alloc (.cells #[.int .i64 0, .slice none 0 0] 25)).heap.size = w.heap.size + 1 by simp] at ky
  have hW := bel_al (bel_al (bel_refl w) (.cells #[.int .i64 0, .slice none 0 0] 25)) (.cells runZ 40)
  have h0 := (h.al (.cells #[.int .i64 0, .slice none 0 0] 25)).al (.cells runZ 40)
  go_enter Try.func34, Try.ntmps34
  go_wp2_with fail
  refine (l6Open_c A n c zs _ h0).mono ?_
  rintro e w1 ⟨R, rfl, hrd, hb1, hR⟩
  have kz1 := kz.bel hb1
  have ky1 := ky.bel hb1
  have hW1 := bel_nx hW hb1
  simp at hR
  go_wp2_with fail
  refine (l91Both_c R 931 _ hrd).mono ?_
  rintro e w2 ⟨v, B, m, d, l, st, G, gn, gc, done, rfl, hl, h5, hm, hG, hgn, hg2⟩
  have kz2 := kz1.grs hg2 (by omega)
  have ky2 := ky1.grs hg2 (by omega)
  have hW2 := bel_gr hW1 hg2 (by omega)
  have cz := kz2.cell
  have fz := kz2.frozen
  have cy := ky2.cell
  have fy := ky2.frozen
  go_wp2_with fail
  have nzy : w.heap.size ≠ w.heap.size + 1 := by omega
  have nyz : w.heap.size + 1 ≠ w.heap.size := by omega
  have KZ := (kz2.set2 (.int .i64 v) (.slice B m d)).far2 nzy (.int .i64 st) (.slice G gn gc)
  have KY := (ky2.far2 nyz (.int .i64 v) (.slice B m d)).set2 (.int .i64 st) (.slice G gn gc)
  have cKz := KZ.cell
  have cKy := KY.cell
  refine bodyPost_ret (v := .tuple #[.agg #[.int .i64 v, .slice B m d], .agg #[.int .i64 st, .slice G gn gc]]) (by simp [results, Try.results34, go_sem, cKz, cKy]) rfl ?_
  go_light
  refine ⟨v, B, m, d, l, st, G, gn, gc, done, rfl, ((hl.set2 kz2 (by decide) (by decide) (.int .i64 v) (.slice B m d)).set2 (ky2.far2 nyz (.int .i64 v) (.slice B m d)) (by decide) (by decide) (.int .i64 st) (.slice G gn gc)).read, h5, hm, SlS.of_own (own_cell2 (own_cell2 hG kz2 (by decide)) (ky2.far2 nyz (.int .i64 v) (.slice B m d)) (by decide)), hgn, ?_⟩
  exact bel_set (bel_set (bel_set (bel_set hW2 (by simp) _) (by simp) _) (by simp) _) (by simp) _

end Go.Proofs.Ytdchfiiaollheaa
