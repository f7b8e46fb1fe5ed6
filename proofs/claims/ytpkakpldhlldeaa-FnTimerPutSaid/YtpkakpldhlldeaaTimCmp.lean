/- Timers are compared: the walk over the program's compareTimers. -/
import Derived.Test.YtpkakpldhlldeaaTimCmp0
namespace Go.Proofs.Ytpkakpldhlldeaa
open Go.RowKit

set_option maxHeartbeats 1000000 in
theorem compareTimers_c (x y : Int) (s t : ByteArray) (w : World) : Calls Try.prog 41 #[.agg #[.int .i64 x, .string s], .agg #[.int .i64 y, .string t]] w fun e w' =>
    e = .returned (.int .i64 (cmpTim (x, s) (y, t))) ∧ Below w.heap.size w w' := by
  have ka := (Blk.new w 25 #[.int .i64 x, .string s]).al (.cells #[.int .i64 y, .string t] 25)
  have kb := Blk.new (w.alloc (.cells #[.int .i64 x, .string s] 25)) 25 #[.int .i64 y, .string t]
  have hb0 := bel_al (bel_al (bel_refl w) (.cells #[.int .i64 x, .string s] 25)) (.cells #[.int .i64 y, .string t] 25)
  go_enter Try.func41, Try.ntmps41
  go_wp2_with fail
  obtain ⟨W, hW⟩ : ∃ W, W = (w.alloc (.cells #[.int .i64 x, .string s] 25)).alloc (.cells #[.int .i64 y, .string t] 25) := ⟨_, rfl⟩
  rw [← hW] at ka kb hb0 ⊢
  simp only [World.alloc, Array.size_push] at kb
  have ca0 : W.cell? ⟨w.heap.size, 0, none⟩ = some (.int .i64 x) := ka.cell 0
  have ca1 : W.cell? ⟨w.heap.size, 1, none⟩ = some (.string s) := ka.cell 1
  have cb0 : W.cell? ⟨w.heap.size + 1, 0, none⟩ = some (.int .i64 y) := kb.cell 0
  have cb1 : W.cell? ⟨w.heap.size + 1, 1, none⟩ = some (.string t) := kb.cell 1
  clear ka kb hW
  go_region_held3 (fun w' => w'.cell? ⟨w.heap.size, 0, none⟩ = some (.int .i64 x) ∧ w'.cell? ⟨w.heap.size, 1, none⟩ = some (.string s) ∧ w'.cell? ⟨w.heap.size + 1, 0, none⟩ = some (.int .i64 y) ∧ w'.cell? ⟨w.heap.size + 1, 1, none⟩ = some (.string t))
    (first | exact ⟨ca0, ca1, cb0, cb1⟩ | exact ⟨cell_al ca0 _, cell_al ca1 _, cell_al cb0 _, cell_al cb1 _⟩ | exact ⟨cell_on hb5 (show ((W.alloc _).drew).cell? _ = _ from cell_al ca0 _), cell_on hb5 (show ((W.alloc _).drew).cell? _ = _ from cell_al ca1 _), cell_on hb5 (show ((W.alloc _).drew).cell? _ = _ from cell_al cb0 _), cell_on hb5 (show ((W.alloc _).drew).cell? _ = _ from cell_al cb1 _)⟩)
    ((first
      | (go_at_call 56; refine (cmpInt_c x y _).mono ?_; rintro e w2 ⟨rfl, rfl⟩)
      | (go_at_call 57; refine (cmpStr_c s t _).mono ?_; rintro e w2 ⟨rfl, rfl⟩)
      | (go_at_call 55; refine (cmpOr_c _ (cmpI x y) (cmpT2 s t) _ (by first | exact (Blk.new W _ _).dr | exact Blk.new W _ _)).mono ?_; rintro e w5 ⟨rfl, hb5⟩)))
  all_goals
    go_wp2_with fail
    go_ret
    refine ⟨ret_int rfl, ?_⟩
    first | exact bel_nx (bel_al (bel_dr hb0) _) hb5 | exact bel_nx (bel_dr (bel_al hb0 _)) hb5

end Go.Proofs.Ytpkakpldhlldeaa
