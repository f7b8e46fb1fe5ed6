/- The program's FlowOrder, RunNew, RunDo where they succeed. -/
import Derived.Test.YtdchfiiaollheaaRunImpl
namespace Go.Proofs.Ytdchfiiaollheaa
open Go.RowKit

theorem implFlowValid_b (v : Int) (A : Option Addr) (n c : Nat) (l : List Stp) (b : Bool) (w : World) (h : SlP w A n c l) (hz : SzP l) (hb : flowB v l = b) : Calls Try.prog 52 #[.agg #[.int .i64 v, .slice A n c]] w fun e w' =>
    e = .returned (.bool b) ∧ Below w.heap.size w w' := by
  rw [← hb]; exact implFlowValid_c v A n c l w h hz

set_option maxRecDepth 20000 in
set_option maxHeartbeats 2000000 in
theorem flowOrder_y (v : Int) (A : Option Addr) (n c : Nat) (l : List Stp) (w : World) (h : SlP w A n c l) (hz : SzP l) (hn : n ≤ 1048576) (hf : flowB v l = true) : Calls Try.prog 37 #[.agg #[.int .i64 v, .slice A n c]] w fun e w' =>
    ∃ D dn dc, e = .returned (.slice D dn dc) ∧ w'.ownsRow w.heap.size 9 1 (.slice D dn dc) dn ((orderP l).map Value.string) ∧ Below w.heap.size w w' := by
  have HF := Lib.hid hf
  clear hf
  have kf := Blk.new w 25 #[.int .i64 v, .slice A n c]
  have hW := bel_al (bel_refl w) (.cells #[.int .i64 v, .slice A n c] 25)
  go_enter Try.func37, Try.ntmps37
  go_wp2_with fail
  refine (implFlowValid_b v A n c l true _ (h.bel hW) hz HF.out).mono ?_
  rintro e w1 ⟨rfl, hb1⟩
  have kf := kf.bel hb1
  have hW := bel_nx hW hb1
  have hsz := hW.size
  have cf := kf.cell
  go_wp2_with fail
  refine (order_c v A n c l _ (h.bel hW) hn).mono ?_
  rintro e w2 ⟨D, dn, dc, rfl, hD, hb2⟩
  have hW := bel_nx hW hb2
  go_wp2_with fail
  go_ret
  exact ⟨D, dn, dc, rfl, ownsRow_base hD hsz, hW⟩

set_option maxRecDepth 20000 in
set_option maxHeartbeats 2000000 in
theorem runNew_y (v : Int) (A : Option Addr) (n c : Nat) (l : List Stp) (w : World) (h : SlP w A n c l) (hz : SzP l) (hf : flowB v l = true) : Calls Try.prog 38 #[.agg #[.int .i64 v, .slice A n c]] w fun e w' =>
    e = .returned (.tuple #[.agg #[.int .i64 0, .slice none 0 0], .bool true]) ∧ Below w.heap.size w w' := by
  have HF := Lib.hid hf
  clear hf
  have kf := (Blk.new w 25 #[.int .i64 v, .slice A n c]).al (.cells #[.int .i64 0, .slice none 0 0] 40)
  have ky := Blk.new (w.alloc (.cells #[.int .i64 v, .slice A n c] 25)) 40 #[.int .i64 0, .slice none 0 0]
  rw [show (w.alloc (.cells #[.int .i64 v, .slice A n c] 25)).heap.size = w.heap.size + 1 by simp] at ky
  have hW := bel_al (bel_al (bel_refl w) (.cells #[.int .i64 v, .slice A n c] 25)) (.cells #[.int .i64 0, .slice none 0 0] 40)
  go_enter Try.func38, Try.ntmps38
  go_wp2_with fail
  refine (implFlowValid_b v A n c l true _ (h.bel hW) hz HF.out).mono ?_
  rintro e w1 ⟨rfl, hb1⟩
  have ky := ky.bel hb1
  have hW := bel_nx hW hb1
  have cy := ky.cell
  have fy := ky.frozen
  go_wp2_with fail
  have K := (ky.set_ 0 (.int .i64 0)).set_ 1 (.slice none 0 0)
  have cK := K.cell
  refine bodyPost_ret (v := .tuple #[.agg #[.int .i64 0, .slice none 0 0], .bool true]) (by simp [results, Try.results38, go_sem, cK]) rfl ⟨rfl, ?_⟩
  exact bel_set (bel_set hW (by simp) _) (by simp) _

set_option maxRecDepth 20000 in
set_option maxHeartbeats 4000000 in
theorem runDo_y (v : Int) (A : Option Addr) (n c : Nat) (l : List Stp) (G : Option Addr) (gn gc : Nat) (done : List ByteArray) (s : ByteArray) (w : World) (h : SlP w A n c l) (hz : SzP l) (hn : n ≤ 1048576) (h' : SlS w G gn gc done) (hgn : gn ≤ 1048575) (hr : runB v l 0 done = true) (hs : inB (readyP l done) s = true) : Calls Try.prog 39 #[.agg #[.int .i64 v, .slice A n c], .agg #[.int .i64 0, .slice G gn gc], .string s] w fun e w' =>
    ∃ D dc, e = .returned (.tuple #[.agg #[.int .i64 (forthI (gn + 1) n), .slice D (gn + 1) dc], .bool true]) ∧ w'.ownsRow w.heap.size 9 1 (.slice D (gn + 1) dc) (gn + 1) ((done ++ [s]).map Value.string) ∧ Below w.heap.size w w' := by
  obtain ⟨i0, hi0, hz0, hz1, hz2⟩ := info_parts str_info
  have HR := Lib.hid hr
  have HS := Lib.hid hs
  clear hr hs
  have kf := ((Blk.new w 25 #[.int .i64 v, .slice A n c]).al (.cells #[.int .i64 0, .slice G gn gc] 40)).al (.cells #[.int .i64 0, .slice none 0 0] 40)
  have kr := (Blk.new (w.alloc (.cells #[.int .i64 v, .slice A n c] 25)) 40 #[.int .i64 0, .slice G gn gc]).al (.cells #[.int .i64 0, .slice none 0 0] 40)
  rw [show (w.alloc (.cells #[.int .i64 v, .slice A n c] 25)).heap.size = w.heap.size + 1 by simp] at kr
  have ky := Blk.new ((w.alloc (.cells #[.int .i64 v, .slice A n c] 25)).alloc (.cells #[.int .i64 0, .slice G gn gc] 40)) 40 #[.int .i64 0, .slice none 0 0]
  rw [show ((w.alloc (.cells #[.int .i64 v, .slice A n c] 25)).alloc (.cells #[.int .i64 0, .slice G gn gc] 40)).heap.size = w.heap.size + 2 by simp] at ky
  have hW := bel_al (bel_al (bel_al (bel_refl w) (.cells #[.int .i64 v, .slice A n c] 25)) (.cells #[.int .i64 0, .slice G gn gc] 40)) (.cells #[.int .i64 0, .slice none 0 0] 40)
  go_enter Try.func39, Try.ntmps39
  go_wp2_with fail
  refine (canDo_y v A n c l G gn gc done s _ (h.bel hW) hz hn (h'.bel hW) HR.out HS.out).mono ?_
  rintro e w2 ⟨rfl, hb2⟩
  have kf := kf.bel hb2
  have kr := kr.bel hb2
  have ky := ky.bel hb2
  have hW := bel_nx hW hb2
  have hsz := hW.size
  have cr := kr.cell
  go_wp2_with fail
  refine (cloneNames_c G gn gc done _ (h'.bel hW) (by omega)).mono ?_
  rintro e w3 ⟨D, dc, rfl, hD, hb3⟩
  have hD := ownsRow_base hD hsz
  have kf3 := kf.bel hb3
  have ky3 := ky.bel hb3
  have hW3 := bel_nx hW hb3
  have hsz3 := hW3.size
  clear cr
  go_wp2_with (at_builtin; refine wpList_append_sl (enc := encS) rfl _ _ 28 rfl w.heap.size 9 i0 (.string ByteArray.empty) 1 16 Try.underlying28 hi0 hz0 hz1 hz2 rfl (by decide) (.slice D gn dc) gn (done.map Value.string) rfl (hD.alloc _) (some ⟨w3.heap.size, 0, none⟩) 1 1 [s] rfl (fun _ => rfl) (Sl.one (Blk.new _ _ _)) one_S (by unfold maxLen; omega) (by omega) (by simp; omega) ?_; intro v5 w5 ho5 hg5 hl5; obtain ⟨A5, c5, rfl⟩ := own_form ho5; rw [flat_encS, ← List.map_append] at ho5; have hW5 : Below w.heap.size w w5 := Below.grown (bel_al hW3 _) hg5 (by simp; omega) (fun j hj => (hD.lt j hj).1); have kf5 := (kf3.al _).gr hg5 (own_ne_blk hD kf3 (by decide)).symm; have ky5 := (ky3.al _).gr hg5 (own_ne_blk hD ky3 (by decide)).symm; have cf5 := kf5.cell)
  refine (forth_c v A n c A5 (gn + 1) c5 _).mono ?_
  rintro e w6 ⟨rfl, hb6⟩
  have ky6 := ky5.bel hb6
  have ho6 := own_bel ho5 hb6
  have hW6 := bel_nx hW5 hb6
  have cy := ky6.cell
  have fy := ky6.frozen
  clear cf5
  go_wp2_with fail
  have K := (ky6.set_ 0 (.int .i64 (forthI (gn + 1) n))).set_ 1 (.slice A5 (gn + 1) c5)
  have cK := K.cell
  refine bodyPost_ret (v := .tuple #[.agg #[.int .i64 (forthI (gn + 1) n), .slice A5 (gn + 1) c5], .bool true]) (by simp [results, Try.results39, go_sem, cK]) rfl ⟨A5, c5, rfl, rown2 ho6 ky6 (by decide), ?_⟩
  exact bel_set (bel_set hW6 (by simp; omega) _) (by simp; omega) _

theorem runDo_z (v : Int) (A : Option Addr) (n c : Nat) (l : List Stp) (G : Option Addr) (gn gc : Nat) (done done' : List ByteArray) (s : ByteArray) (w : World) (h : SlP w A n c l) (hz : SzP l) (hn : n ≤ 1048576) (h' : SlS w G gn gc done) (hgn : gn ≤ 1048575) (hr : runB v l 0 done = true) (hs : inB (readyP l done) s = true) (hlt : gn + 1 < n) (hd : done ++ [s] = done') : Calls Try.prog 39 #[.agg #[.int .i64 v, .slice A n c], .agg #[.int .i64 0, .slice G gn gc], .string s] w fun e w' =>
    ∃ D dc, e = .returned (.tuple #[.agg #[.int .i64 0, .slice D (gn + 1) dc], .bool true]) ∧ w'.ownsRow w.heap.size 9 1 (.slice D (gn + 1) dc) (gn + 1) (done'.map Value.string) ∧ Below w.heap.size w w' := by
  subst hd
  have := runDo_y v A n c l G gn gc done s w h hz hn h' hgn hr hs
  rw [show forthI (gn + 1) n = 0 by unfold forthI; rw [if_neg (by omega)]] at this
  exact this
end Go.Proofs.Ytdchfiiaollheaa
