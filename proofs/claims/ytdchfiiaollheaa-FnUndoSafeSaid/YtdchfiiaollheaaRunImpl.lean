/- The program's canDo, RunFail, RunUndo, RunNext where they succeed. -/
import Derived.Test.YtdchfiiaollheaaUndo2
import Derived.Deep.RegionHeld3
import Derived.Deep.Cut
import Derived.Deep.Light
namespace Go.Proofs.Ytdchfiiaollheaa
open Go.RowKit

theorem rcell_st {w : World} {p : Addr} {v : Value} (h : w.cell? p = some v) {g i : Nat} (hne : p.block ≠ g) (u : Value) : (w.setCell ⟨g, i, none⟩ u).cell? p = some v :=
  (World.cell?_of_block (heap_setCell_other w ⟨g, i, none⟩ p.block u (fun e => hne e))).trans h
theorem rown2 {w : World} {B : Nat} {e : TypeId} {k n : Nat} {v x y : Value} {xs : List Value} {g : Nat} {t : TypeId} {cs : Array Value} (h : w.ownsRow B e k v n xs) (hb : Blk w g t cs) (hne : e ≠ t) : ((w.setCell ⟨g, 0, none⟩ x).setCell ⟨g, 1, none⟩ y).ownsRow B e k v n xs :=
  h.kept (gr_at (gr_cell w g 0 x) 1 y) (.inr (own_ne_blk h hb hne))
theorem implRunValid_b (v : Int) (A : Option Addr) (n c : Nat) (l : List Stp) (st : Int) (G : Option Addr) (gn gc : Nat) (done : List ByteArray) (b : Bool) (w : World) (h : SlP w A n c l) (hz : SzP l) (h' : SlS w G gn gc done) (hb : runB v l st done = b) : Calls Try.prog 64 #[.agg #[.int .i64 v, .slice A n c], .agg #[.int .i64 st, .slice G gn gc]] w fun e w' =>
    e = .returned (.bool b) ∧ Below w.heap.size w w' := by
  rw [← hb]; exact implRunValid_c v A n c l st G gn gc done w h hz h'

set_option maxRecDepth 20000 in
set_option maxHeartbeats 4000000 in
theorem canDo_y (v : Int) (A : Option Addr) (n c : Nat) (l : List Stp) (G : Option Addr) (gn gc : Nat) (done : List ByteArray) (s : ByteArray) (w : World) (h : SlP w A n c l) (hz : SzP l) (hn : n ≤ 1048576) (h' : SlS w G gn gc done) (hr : runB v l 0 done = true) (hs : inB (readyP l done) s = true) : Calls Try.prog 74 #[.agg #[.int .i64 v, .slice A n c], .agg #[.int .i64 0, .slice G gn gc], .string s] w fun e w' =>
    e = .returned (.bool true) ∧ Below w.heap.size w w' := by
  have HR := Lib.hid hr
  have HS := Lib.hid hs
  clear hr hs
  have kf := (Blk.new w 25 #[.int .i64 v, .slice A n c]).al (.cells #[.int .i64 0, .slice G gn gc] 40)
  have kr := Blk.new (w.alloc (.cells #[.int .i64 v, .slice A n c] 25)) 40 #[.int .i64 0, .slice G gn gc]
  rw [show (w.alloc (.cells #[.int .i64 v, .slice A n c] 25)).heap.size = w.heap.size + 1 by simp] at kr
  have hW := bel_al (bel_al (bel_refl w) (.cells #[.int .i64 v, .slice A n c] 25)) (.cells #[.int .i64 0, .slice G gn gc] 40)
  go_enter Try.func74, Try.ntmps74
  go_wp2_with fail
  refine (implRunValid_b v A n c l 0 G gn gc done true _ (h.bel hW) hz (h'.bel hW) HR.out).mono ?_
  rintro e w1 ⟨rfl, hb1⟩
  have kf := kf.bel hb1
  have kr := kr.bel hb1
  have hW := bel_nx hW hb1
  have cf := kf.cell
  have cr := kr.cell
  go_wp2_with fail
  refine (ready_c v A n c l G gn gc done _ (h.bel hW) (h'.bel hW) hn).mono ?_
  rintro e w2 ⟨D, dn, dc, rfl, hD, hb2⟩
  have hW := bel_nx hW hb2
  go_wp2_with fail
  refine (contains_b D dn dc _ s true _ (SlS.of_own hD) HS.out).mono ?_
  rintro e w3 ⟨rfl, rfl⟩
  go_wp2_with fail
  go_ret
  exact ⟨rfl, hW⟩

set_option maxRecDepth 20000 in
set_option maxHeartbeats 4000000 in
theorem runFail_y (v : Int) (A : Option Addr) (n c : Nat) (l : List Stp) (G : Option Addr) (gn gc : Nat) (done : List ByteArray) (s : ByteArray) (w : World) (h : SlP w A n c l) (hz : SzP l) (hn : n ≤ 1048576) (h' : SlS w G gn gc done) (hgn : gn ≤ 1048576) (hr : runB v l 0 done = true) (hs : inB (readyP l done) s = true) : Calls Try.prog 42 #[.agg #[.int .i64 v, .slice A n c], .agg #[.int .i64 0, .slice G gn gc], .string s] w fun e w' =>
    ∃ D dc, e = .returned (.tuple #[.agg #[.int .i64 (backI l done), .slice D gn dc], .bool true]) ∧ w'.ownsRow w.heap.size 9 1 (.slice D gn dc) gn (done.map Value.string) ∧ Below w.heap.size w w' := by
  have HR := Lib.hid hr
  have HS := Lib.hid hs
  have HDN := Lib.hid (done_names (runB_iff.1 hr).2.1)
  clear hr hs
  have kf := ((Blk.new w 25 #[.int .i64 v, .slice A n c]).al (.cells #[.int .i64 0, .slice G gn gc] 40)).al (.cells #[.int .i64 0, .slice none 0 0] 40)
  have kr := (Blk.new (w.alloc (.cells #[.int .i64 v, .slice A n c] 25)) 40 #[.int .i64 0, .slice G gn gc]).al (.cells #[.int .i64 0, .slice none 0 0] 40)
  rw [show (w.alloc (.cells #[.int .i64 v, .slice A n c] 25)).heap.size = w.heap.size + 1 by simp] at kr
  have ky := Blk.new ((w.alloc (.cells #[.int .i64 v, .slice A n c] 25)).alloc (.cells #[.int .i64 0, .slice G gn gc] 40)) 40 #[.int .i64 0, .slice none 0 0]
  rw [show ((w.alloc (.cells #[.int .i64 v, .slice A n c] 25)).alloc (.cells #[.int .i64 0, .slice G gn gc] 40)).heap.size = w.heap.size + 2 by simp] at ky
  have hW := bel_al (bel_al (bel_al (bel_refl w) (.cells #[.int .i64 v, .slice A n c] 25)) (.cells #[.int .i64 0, .slice G gn gc] 40)) (.cells #[.int .i64 0, .slice none 0 0] 40)
  go_enter Try.func42, Try.ntmps42
  go_wp2_with fail
  refine (canDo_y v A n c l G gn gc done s _ (h.bel hW) hz hn (h'.bel hW) HR.out HS.out).mono ?_
  rintro e w2 ⟨rfl, hb2⟩
  have kf := kf.bel hb2
  have kr := kr.bel hb2
  have ky := ky.bel hb2
  have hW := bel_nx hW hb2
  have hf := h.bel hW
  have hd := h'.bel hW
  have hsz := hW.size
  have cy := ky.cell
  have fy := ky.frozen
  go_wp2_with fail
  have x0 : w2.cell? ⟨w.heap.size, 0, none⟩ = some (.int .i64 v) := kf.cell 0
  have x1 : w2.cell? ⟨w.heap.size, 1, none⟩ = some (.slice A n c) := kf.cell 1
  have x2 : w2.cell? ⟨w.heap.size + 1, 1, none⟩ = some (.slice G gn gc) := kr.cell 1
  have n0 : w.heap.size ≠ w.heap.size + 1 + 1 := by omega
  have n1 : w.heap.size + 1 ≠ w.heap.size + 1 + 1 := by omega
  go_region_held3 (fun w' => w'.cell? ⟨w.heap.size, 0, none⟩ = some (.int .i64 v) ∧ w'.cell? ⟨w.heap.size, 1, none⟩ = some (.slice A n c) ∧ w'.cell? ⟨w.heap.size + 1, 1, none⟩ = some (.slice G gn gc)) (first | exact ⟨(x0 : w2.drew.cell? _ = _), (x1 : w2.drew.cell? _ = _), (x2 : w2.drew.cell? _ = _)⟩ | with_reducible exact zs | with_reducible exact ys | with_reducible exact ⟨rcell_st (rcell_st zs.1 n0 _) n0 _, rcell_st (rcell_st zs.2.1 n0 _) n0 _, rcell_st (rcell_st zs.2.2 n1 _) n1 _⟩) ((first
    | (go_at_call 77; refine (back_c v A n c l G gn gc done _ (by first | with_reducible exact hf.dr | with_reducible exact hf.bel hB6) (by first | with_reducible exact hd.dr | with_reducible exact hd.bel hB6) HDN.out).mono ?_; rintro e w5 ⟨rfl, hb5⟩; have hB5 : Below w2.heap.size w2 w5 := (by first | with_reducible exact bel_nx (bel_dr (bel_refl w2)) hb5 | with_reducible exact bel_nx hB6 hb5); have ys : w5.cell? ⟨w.heap.size, 0, none⟩ = some (.int .i64 v) ∧ w5.cell? ⟨w.heap.size, 1, none⟩ = some (.slice A n c) ∧ w5.cell? ⟨w.heap.size + 1, 1, none⟩ = some (.slice G gn gc) := ⟨cell_on hB5 x0, cell_on hB5 x1, cell_on hB5 x2⟩; have ky5 := ky.bel hB5; have cy5 := ky5.cell; have fy5 := ky5.frozen; (first | (have hD5 := own_bel hD hb5) | skip))
    | (go_at_call 68; refine (cloneNames_c G gn gc done _ (by first | with_reducible exact hd.dr | with_reducible exact hd.bel hB5) hgn).mono ?_; rintro e w6 ⟨D, dc, rfl, hD, hb6⟩; have hB6 : Below w2.heap.size w2 w6 := (by first | with_reducible exact bel_nx (bel_dr (bel_refl w2)) hb6 | with_reducible exact bel_nx hB5 hb6); have zs : w6.cell? ⟨w.heap.size, 0, none⟩ = some (.int .i64 v) ∧ w6.cell? ⟨w.heap.size, 1, none⟩ = some (.slice A n c) ∧ w6.cell? ⟨w.heap.size + 1, 1, none⟩ = some (.slice G gn gc) := ⟨cell_on hB6 x0, cell_on hB6 x1, cell_on hB6 x2⟩; have ky6 := ky.bel hB6; have cy6 := ky6.cell; have fy6 := ky6.frozen)))
  go_wp2_with fail
  have K := (ky6.set_ 0 (.int .i64 (backI l done))).set_ 1 (.slice D gn dc)
  have cK := K.cell
  refine bodyPost_ret (v := .tuple #[.agg #[.int .i64 (backI l done), .slice D gn dc], .bool true]) (by simp [results, Try.results42, go_sem, cK]) rfl ⟨D, dc, rfl, ownsRow_base (rown2 hD ky6 (by decide)) (by have := hB5.size; omega), ?_⟩
  exact bel_set (bel_set (bel_nx hW hB6) (by simp; omega) _) (by simp; omega) _

set_option maxRecDepth 20000 in
set_option maxHeartbeats 4000000 in
theorem runUndo_y (v : Int) (A : Option Addr) (n c : Nat) (l : List Stp) (G : Option Addr) (gn gc : Nat) (done : List ByteArray) (t : ByteArray) (w : World) (h : SlP w A n c l) (hz : SzP l) (h' : SlS w G (gn + 1) gc done) (hgn : gn ≤ 1048576) (hr : runB v l 1 done = true) (ht : done[gn]? = some t) : Calls Try.prog 43 #[.agg #[.int .i64 v, .slice A n c], .agg #[.int .i64 1, .slice G (gn + 1) gc]] w fun e w' =>
    ∃ D dc, e = .returned (.tuple #[.agg #[.int .i64 (backI l (done.take gn)), .slice D gn dc], .string t, .bool true]) ∧ w'.ownsRow w.heap.size 9 1 (.slice D gn dc) gn ((done.take gn).map Value.string) ∧ Below w.heap.size w w' := by
  have HR := Lib.hid hr
  have HDN := Lib.hid (done_names (runB_iff.1 hr).2.1)
  have HDT : Hid (∀ s ∈ done.take gn, s ∈ namesP l) := Lib.hid (fun s hs => HDN.out s (List.mem_of_mem_take hs))
  clear hr
  have hcap' := h'.cap
  have hmax' := h'.max
  obtain ⟨b, off, t', hG, hx, hcw⟩ := SlS.get h' (i := gn) (by omega)
  subst hG
  rw [ht] at hx
  cases hx
  clear ht
  have kf := ((Blk.new w 25 #[.int .i64 v, .slice A n c]).al (.cells #[.int .i64 1, .slice (some ⟨b, off, none⟩) (gn + 1) gc] 40)).al (.cells #[.int .i64 0, .slice none 0 0] 40)
  have kr := (Blk.new (w.alloc (.cells #[.int .i64 v, .slice A n c] 25)) 40 #[.int .i64 1, .slice (some ⟨b, off, none⟩) (gn + 1) gc]).al (.cells #[.int .i64 0, .slice none 0 0] 40)
  rw [show (w.alloc (.cells #[.int .i64 v, .slice A n c] 25)).heap.size = w.heap.size + 1 by simp] at kr
  have ky := Blk.new ((w.alloc (.cells #[.int .i64 v, .slice A n c] 25)).alloc (.cells #[.int .i64 1, .slice (some ⟨b, off, none⟩) (gn + 1) gc] 40)) 40 #[.int .i64 0, .slice none 0 0]
  rw [show ((w.alloc (.cells #[.int .i64 v, .slice A n c] 25)).alloc (.cells #[.int .i64 1, .slice (some ⟨b, off, none⟩) (gn + 1) gc] 40)).heap.size = w.heap.size + 2 by simp] at ky
  have hW := bel_al (bel_al (bel_al (bel_refl w) (.cells #[.int .i64 v, .slice A n c] 25)) (.cells #[.int .i64 1, .slice (some ⟨b, off, none⟩) (gn + 1) gc] 40)) (.cells #[.int .i64 0, .slice none 0 0] 40)
  have hwj : IntKind.i64.wrap (gn : Int) = (gn : Int) := by rw [IntKind.wrap_i64]; omega
  have j0 : (0 : Int) ≤ (gn : Int) := by omega
  have j1 : (gn : Int) < (gn : Int) + 1 := by omega
  have j2 : (gn : Int) ≤ (gc : Int) := by omega
  have hbw : b < w.heap.size := cell_some_lt (w := w) (p := ⟨b, off + gn, none⟩) (by rw [hcw]; rfl)
  go_enter Try.func43, Try.ntmps43
  go_wp2_with fail
  refine (implRunValid_b v A n c l 1 (some ⟨b, off, none⟩) (gn + 1) gc done true _ (h.bel hW) hz (h'.bel hW) HR.out).mono ?_
  rintro e w2 ⟨rfl, hb2⟩
  have kf := kf.bel hb2
  have kr := kr.bel hb2
  have ky := ky.bel hb2
  have hW := bel_nx hW hb2
  have cr := kr.cell
  go_wp2_with fail
  refine (cloneNames_c (some ⟨b, off, none⟩) gn gc (done.take gn) _ ((h'.take (m := gn) (by omega)).bel hW) hgn).mono ?_
  rintro e w3 ⟨D, dc, rfl, hD, hb3⟩
  have hszD := hW.size
  have kf := kf.bel hb3
  have kr := kr.bel hb3
  have ky := ky.bel hb3
  have hW := bel_nx hW hb3
  have hf := h.bel hW
  have cy := ky.cell
  have fy := ky.frozen
  clear cr
  go_wp2_with fail
  have x0 : w3.cell? ⟨w.heap.size, 0, none⟩ = some (.int .i64 v) := kf.cell 0
  have x1 : w3.cell? ⟨w.heap.size, 1, none⟩ = some (.slice A n c) := kf.cell 1
  have x2 : w3.cell? ⟨w.heap.size + 1, 1, none⟩ = some (.slice (some ⟨b, off, none⟩) (gn + 1) gc) := kr.cell 1
  have x3 := cell_on hW hcw
  have n0 : w.heap.size ≠ w.heap.size + 1 + 1 := by omega
  have n1 : w.heap.size + 1 ≠ w.heap.size + 1 + 1 := by omega
  have n2 : b ≠ w.heap.size + 1 + 1 := by omega
  go_region_held3 (fun w' => w'.cell? ⟨w.heap.size, 0, none⟩ = some (.int .i64 v) ∧ w'.cell? ⟨w.heap.size, 1, none⟩ = some (.slice A n c) ∧ w'.cell? ⟨w.heap.size + 1, 1, none⟩ = some (.slice (some ⟨b, off, none⟩) (gn + 1) gc) ∧ w'.cell? ⟨b, off + gn, none⟩ = some (.string t)) (first | exact ⟨(x0 : w3.drew.cell? _ = _), (x1 : w3.drew.cell? _ = _), (x2 : w3.drew.cell? _ = _), (x3 : w3.drew.cell? _ = _)⟩ | with_reducible exact ys | with_reducible exact ⟨rcell_st (rcell_st ys.1 n0 _) n0 _, rcell_st (rcell_st ys.2.1 n0 _) n0 _, rcell_st (rcell_st ys.2.2.1 n1 _) n1 _, rcell_st (rcell_st ys.2.2.2 n2 _) n2 _⟩) ((go_at_call 77; refine (back_c v A n c l D gn dc (done.take gn) _ hf.dr (SlS.of_own hD).dr HDT.out).mono ?_; rintro e w5 ⟨rfl, hb5⟩; have hB5 : Below w3.heap.size w3 w5 := (by with_reducible exact bel_nx (bel_dr (bel_refl w3)) hb5); have ys : w5.cell? ⟨w.heap.size, 0, none⟩ = some (.int .i64 v) ∧ w5.cell? ⟨w.heap.size, 1, none⟩ = some (.slice A n c) ∧ w5.cell? ⟨w.heap.size + 1, 1, none⟩ = some (.slice (some ⟨b, off, none⟩) (gn + 1) gc) ∧ w5.cell? ⟨b, off + gn, none⟩ = some (.string t) := ⟨cell_on hB5 x0, cell_on hB5 x1, cell_on hB5 x2, cell_on hB5 x3⟩; have ky5 := ky.bel hB5; have cy5 := ky5.cell; have fy5 := ky5.frozen; have hD5 := own_bel hD hB5))
  go_wp2_with fail
  have K := (ky5.set_ 0 (.int .i64 (backI l (done.take gn)))).set_ 1 (.slice D gn dc)
  have cK := K.cell
  refine bodyPost_ret (v := .tuple #[.agg #[.int .i64 (backI l (done.take gn)), .slice D gn dc], .string t, .bool true]) (by simp [results, Try.results43, go_sem, cK]) rfl ⟨D, dc, rfl, ownsRow_base (rown2 hD5 ky5 (by decide)) hszD, ?_⟩
  exact bel_set (bel_set (bel_nx hW hB5) (by simp; omega) _) (by simp; omega) _

set_option maxRecDepth 20000 in
set_option maxHeartbeats 4000000 in
theorem runNext_y (v : Int) (A : Option Addr) (n c : Nat) (l : List Stp) (G : Option Addr) (gn gc : Nat) (done : List ByteArray) (w : World) (h : SlP w A n c l) (hz : SzP l) (hn : n ≤ 1048576) (h' : SlS w G gn gc done) (hr : runB v l 0 done = true) : Calls Try.prog 41 #[.agg #[.int .i64 v, .slice A n c], .agg #[.int .i64 0, .slice G gn gc]] w fun e w' =>
    ∃ D dn dc, e = .returned (.slice D dn dc) ∧ w'.ownsRow w.heap.size 9 1 (.slice D dn dc) dn ((readyP l done).map Value.string) ∧ Below w.heap.size w w' := by
  have HR := Lib.hid hr
  clear hr
  have kf := (Blk.new w 25 #[.int .i64 v, .slice A n c]).al (.cells #[.int .i64 0, .slice G gn gc] 40)
  have kr := Blk.new (w.alloc (.cells #[.int .i64 v, .slice A n c] 25)) 40 #[.int .i64 0, .slice G gn gc]
  rw [show (w.alloc (.cells #[.int .i64 v, .slice A n c] 25)).heap.size = w.heap.size + 1 by simp] at kr
  have hW := bel_al (bel_al (bel_refl w) (.cells #[.int .i64 v, .slice A n c] 25)) (.cells #[.int .i64 0, .slice G gn gc] 40)
  go_enter Try.func41, Try.ntmps41
  go_wp2_with fail
  refine (implRunValid_b v A n c l 0 G gn gc done true _ (h.bel hW) hz (h'.bel hW) HR.out).mono ?_
  rintro e w1 ⟨rfl, hb1⟩
  have kf := kf.bel hb1
  have kr := kr.bel hb1
  have hW := bel_nx hW hb1
  have hsz := hW.size
  have cf := kf.cell
  have cr := kr.cell
  go_wp2_with fail
  refine (ready_c v A n c l G gn gc done _ (h.bel hW) (h'.bel hW) hn).mono ?_
  rintro e w2 ⟨D, dn, dc, rfl, hD, hb2⟩
  have hW := bel_nx hW hb2
  go_wp2_with fail
  go_ret
  exact ⟨D, dn, dc, rfl, ownsRow_base hD hsz, hW⟩

theorem runNext_z (v : Int) (A : Option Addr) (n c : Nat) (l : List Stp) (st : Int) (G : Option Addr) (gn gc : Nat) (done : List ByteArray) (w : World) (h : SlP w A n c l) (hz : SzP l) (hn : n ≤ 1048576) (h' : SlS w G gn gc done) (hst : st = 0) (hr : runB v l 0 done = true) : Calls Try.prog 41 #[.agg #[.int .i64 v, .slice A n c], .agg #[.int .i64 st, .slice G gn gc]] w fun e w' =>
    ∃ D dn dc, e = .returned (.slice D dn dc) ∧ w'.ownsRow w.heap.size 9 1 (.slice D dn dc) dn ((readyP l done).map Value.string) ∧ Below w.heap.size w w' := by
  subst hst; exact runNext_y v A n c l G gn gc done w h hz hn h' hr
theorem runFail_z (v : Int) (A : Option Addr) (n c : Nat) (l : List Stp) (st : Int) (G : Option Addr) (gn gc : Nat) (done : List ByteArray) (s : ByteArray) (w : World) (h : SlP w A n c l) (hz : SzP l) (hn : n ≤ 1048576) (h' : SlS w G gn gc done) (hgn : gn ≤ 1048576) (hst : st = 0) (hr : runB v l 0 done = true) (hs : inB (readyP l done) s = true) : Calls Try.prog 42 #[.agg #[.int .i64 v, .slice A n c], .agg #[.int .i64 st, .slice G gn gc], .string s] w fun e w' =>
    ∃ D dc, e = .returned (.tuple #[.agg #[.int .i64 (backI l done), .slice D gn dc], .bool true]) ∧ w'.ownsRow w.heap.size 9 1 (.slice D gn dc) gn (done.map Value.string) ∧ Below w.heap.size w w' := by
  subst hst; exact runFail_y v A n c l G gn gc done s w h hz hn h' hgn hr hs
theorem runUndo_z (v : Int) (A : Option Addr) (n c : Nat) (l : List Stp) (st : Int) (G : Option Addr) (gn gc : Nat) (done : List ByteArray) (t : ByteArray) (w : World) (h : SlP w A n c l) (hz : SzP l) (h' : SlS w G (gn + 1) gc (done.take (gn + 1))) (hgn : gn ≤ 1048576) (hst : st = 1) (hr : runB v l 1 (done.take (gn + 1)) = true) (ht : (done.take (gn + 1))[gn]? = some t) : Calls Try.prog 43 #[.agg #[.int .i64 v, .slice A n c], .agg #[.int .i64 st, .slice G (gn + 1) gc]] w fun e w' =>
    ∃ D dc, e = .returned (.tuple #[.agg #[.int .i64 (backI l (done.take gn)), .slice D gn dc], .string t, .bool true]) ∧ w'.ownsRow w.heap.size 9 1 (.slice D gn dc) gn ((done.take gn).map Value.string) ∧ Below w.heap.size w w' := by
  subst hst
  have h0 : (done.take (gn + 1)).take gn = done.take gn := by rw [List.take_take, show min gn (gn + 1) = gn by omega]
  have := runUndo_y v A n c l G gn gc (done.take (gn + 1)) t w h hz h' hgn hr ht
  rw [h0] at this
  exact this
end Go.Proofs.Ytdchfiiaollheaa
