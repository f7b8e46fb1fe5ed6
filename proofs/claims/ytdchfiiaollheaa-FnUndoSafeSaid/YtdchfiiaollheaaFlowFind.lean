/- The step with a name: the walks over placeOf, clone and FlowFind. -/
import Derived.Test.YtdchfiiaollheaaUndo1
import Derived.Deep.RegionWith
import Derived.Deep.RegionLaw
namespace Go.Proofs.Ytdchfiiaollheaa
open Go.RowKit

set_option maxHeartbeats 400000 in
theorem placeOf_c (A : Option Addr) (n c : Nat) (l : List ByteArray) (s : ByteArray) (w : World) (h : SlS w A n c l) : Calls Try.prog 40 #[.slice A n c, .string s] w fun e w' =>
    e = .returned (.int .i64 (atS l s)) ∧ w = w' := by
  have HL := Lib.hid h.len
  have hcap := h.cap
  have hmax := h.max
  go_enter Try.func40, Try.ntmps40
  go_wp2_with fail
  go_loop [5] (fun i => ∃ k : Nat, k ≤ n ∧ i = .int .i64 k ∧ Hid (∀ j (r : ByteArray), j < k → l[j]? = some r → r ≠ s)) (fun i => n - (intOf i).toNat)
  case atStart => exact ⟨0, Nat.zero_le _, rfl, Lib.hid (fun j r h => by omega)⟩
  case round =>
    obtain ⟨k, hk, rfl, H⟩ := hrel
    by_cases hlt : k < n
    · obtain ⟨b, off, t, rfl, hx, hc0⟩ := SlS.get h hlt
      have HX := Lib.hid hx
      clear hx
      have k0 : (0 : Int) ≤ (k : Int) := by omega
      have k1 : (k : Int) < (n : Int) := by omega
      by_cases hts : t = s
      · subst hts
        have e1 : (t.toList == t.toList) = true := by simp
        have HF := Lib.hid (atS_hit HX.out H.out)
        go_wp2_with fail
        go_ret
        exact ⟨ret_int HF.out.symm, rfl⟩
      · have e1 : (t.toList == s.toList) = false := beqS_no hts
        have HN := Lib.hid (ne_nextS HX.out hts H.out)
        clear hts
        go_wp2_with fail
        go_round
        case rel => exact ⟨k + 1, by omega, by go_num, HN⟩
        case measure => simp [intOf]; omega
    · have HF := Lib.hid (atS_miss (l := l) (s := s) (fun j r hj hr => H.out j r (by have := HL.out; omega) hr))
      go_wp2_with fail
      go_ret
      exact ⟨ret_int HF.out.symm, rfl⟩

set_option maxHeartbeats 1000000 in
theorem stepClone_c (nm : ByteArray) (B : Option Addr) (m d : Nat) (u : Bool) (af : List ByteArray) (w : World) (haf : SlS w B m d af) (hm : m ≤ 1048576) : Calls Try.prog 72 #[.agg #[.string nm, .slice B m d, .bool u]] w fun e w' =>
    ∃ D dc, e = .returned (.agg #[.string nm, .slice D m dc, .bool u]) ∧ Below w.heap.size w w' := by
  have k1 := (Blk.new w 30 #[.string nm, .slice B m d, .bool u]).al (.cells #[.string ⟨#[]⟩, .slice none 0 0, .bool false] 30)
  have k2 := Blk.new (w.alloc (.cells #[.string nm, .slice B m d, .bool u] 30)) 30 #[.string ⟨#[]⟩, .slice none 0 0, .bool false]
  have hW := bel_al (bel_al (bel_refl w) (.cells #[.string nm, .slice B m d, .bool u] 30)) (.cells #[.string ⟨#[]⟩, .slice none 0 0, .bool false] 30)
  have ha := (haf.al (.cells #[.string nm, .slice B m d, .bool u] 30)).al (.cells #[.string ⟨#[]⟩, .slice none 0 0, .bool false] 30)
  go_enter Try.func72, Try.ntmps72
  go_wp2_with fail
  obtain ⟨W, hWW⟩ : ∃ W, W = ((w.alloc (.cells #[.string nm, .slice B m d, .bool u] 30)).alloc (.cells #[.string ⟨#[]⟩, .slice none 0 0, .bool false] 30)) := ⟨_, rfl⟩
  rw [← hWW] at k1 k2 hW ha ⊢
  have hsz : w.heap.size + 1 < W.heap.size := by rw [hWW]; simp
  simp only [World.alloc, Array.size_push] at k2
  clear hWW
  refine (cloneNames_c B m d af W ha hm).mono ?_
  rintro e w1 ⟨D, dc, rfl, hD, hb1⟩
  have k1 := k1.bel hb1
  have k2 := k2.bel hb1
  have hW := bel_nx hW hb1
  have c1 := k1.cell
  have c2 := k2.cell
  have f1 := k1.frozen
  have f2 := k2.frozen
  go_wp2_with fail
  have K2 := (((k2.far (p := ⟨w.heap.size, 1, none⟩) (by simp) (.slice D m dc)).set_ 0 (.string nm)).set_ 1 (.slice D m dc)).set_ 2 (.bool u)
  have cz := K2.cell
  refine bodyPost_ret (v := .agg #[.string nm, .slice D m dc, .bool u]) (by simp [results, Try.results72, go_sem, cz]) rfl ⟨D, dc, rfl, ?_⟩
  exact bel_set (bel_set (bel_set (bel_set hW (by simp) _) (by simp) _) (by simp) _) (by simp) _

def findB (v : Int) (l : List Stp) (s : ByteArray) : Bool := flowB v l && inB (namesP l) s

set_option maxRecDepth 20000 in
set_option maxHeartbeats 4000000 in
theorem flowFind_c (v : Int) (A : Option Addr) (n c : Nat) (l : List Stp) (s : ByteArray) (w : World) (h : SlP w A n c l) (hz : SzP l) : Calls Try.prog 33 #[.agg #[.int .i64 v, .slice A n c], .string s] w fun e w' =>
    ∃ nm D m dc u, e = .returned (.tuple #[.agg #[.string nm, .slice D m dc, .bool u], .bool (findB v l s)]) ∧ u = (findB v l s && undoB l s) ∧ Below w.heap.size w w' := by
  have HL := Lib.hid h.len
  have hcap := h.cap
  have hmax := h.max
  have kf := (Blk.new w 25 #[.int .i64 v, .slice A n c]).al (.cells #[.string ⟨#[]⟩, .slice none 0 0, .bool false] 30)
  have kr := Blk.new (w.alloc (.cells #[.int .i64 v, .slice A n c] 25)) 30 #[.string ⟨#[]⟩, .slice none 0 0, .bool false]
  simp only [World.alloc, Array.size_push] at kr
  have kr : Blk ((w.alloc (.cells #[.int .i64 v, .slice A n c] 25)).alloc (.cells #[.string ⟨#[]⟩, .slice none 0 0, .bool false] 30)) (w.heap.size + 1) 30 #[.string ⟨#[]⟩, .slice none 0 0, .bool false] := kr
  have hW := bel_al (bel_al (bel_refl w) (.cells #[.int .i64 v, .slice A n c] 25)) (.cells #[.string ⟨#[]⟩, .slice none 0 0, .bool false] 30)
  go_enter Try.func33, Try.ntmps33
  go_wp2_with fail
  refine (implFlowValid_c v A n c l _ (h.bel hW) hz).mono ?_
  rintro e w1 ⟨rfl, hb1⟩
  have kfV := kf.bel hb1
  have krV := kr.bel hb1
  have hWV := bel_nx hW hb1
  clear hb1
  have cf := kfV.cell
  have cr := krV.cell
  have fr := krV.frozen
  have K0 := ((krV.set_ 0 (.string ⟨#[]⟩)).set_ 1 (.slice none 0 0)).set_ 2 (.bool false)
  cases hv : flowB v l
  · have HF : Hid (findB v l s = false) := Lib.hid (by simp [findB, hv])
    clear hv
    go_wp2_with fail
    have cz := K0.cell
    rw [HF.out]
    refine bodyPost_ret (v := .tuple #[.agg #[.string ⟨#[]⟩, .slice none 0 0, .bool false], .bool false]) (by simp [results, Try.results33, go_sem, cz]) rfl ⟨_, _, _, _, _, rfl, rfl, ?_⟩
    exact bel_set (bel_set (bel_set hWV (by simp) _) (by simp) _) (by simp) _
  have HV := Lib.hid hv
  have hn8 : n ≤ 8 := by rw [← HL.out]; exact (flowB_iff.1 hv).2.1.2
  clear hv
  rcases atS_cases (namesP l) s with ⟨ha, hnm⟩ | ⟨k, ha, hk, _⟩
  · have HF : Hid (findB v l s = false) := Lib.hid (by
      have : inB (namesP l) s = false := by
        cases hi : inB (namesP l) s
        · rfl
        · exact absurd (inB_iff.1 hi) hnm
      simp [findB, this])
    have HA := Lib.hid ha
    clear ha hnm
    go_wp2_with fail
    refine (flowAt_z v A n c l s (-1) _ (h.bel hWV) HA.out).mono ?_
    rintro e w5 ⟨rfl, hb5⟩
    have kr5 := krV.bel hb5
    have hW5 := bel_nx hWV hb5
    have cr5 := kr5.cell
    have fr5 := kr5.frozen
    have K5 := ((kr5.set_ 0 (.string ⟨#[]⟩)).set_ 1 (.slice none 0 0)).set_ 2 (.bool false)
    go_wp2_with fail
    have cz := K5.cell
    rw [HF.out]
    refine bodyPost_ret (v := .tuple #[.agg #[.string ⟨#[]⟩, .slice none 0 0, .bool false], .bool false]) (by simp [results, Try.results33, go_sem, cz]) rfl ⟨_, _, _, _, _, rfl, rfl, ?_⟩
    exact bel_set (bel_set (bel_set hW5 (by simp) _) (by simp) _) (by simp) _
  · have hmem : s ∈ namesP l := List.mem_of_getElem? hk
    obtain ⟨k', af, u, hat, hkl, hp, hun⟩ := atP hmem
    have hkk : k' = k := by rw [ha] at hat; omega
    subst hkk
    have HF : Hid (findB v l s = true) := Lib.hid (by simp [findB, HV.out, inB_iff.2 hmem])
    have hst := (stepsB_iff.1 (flowB_iff.1 HV.out).2.2.2.1 _ (List.mem_of_getElem? hp)).1
    have haf4 : af.length ≤ 4 := by
      simp only [stepB, Bool.and_eq_true, decide_eq_true_iff] at hst
      exact hst.1.1.2
    obtain ⟨b, off, nm, B, m, d, af2, u2, rfl, hx, hc0, hc1, hc2, haf⟩ := SlP.get h (i := k') (by rw [← HL.out]; exact hkl)
    rw [hp] at hx
    obtain ⟨rfl, rfl, rfl⟩ : s = nm ∧ af = af2 ∧ u = u2 := by simpa using hx
    have hm : m ≤ 1048576 := by rw [← haf.len]; omega
    have hkn : k' < n := by rw [← HL.out]; exact hkl
    have HA := Lib.hid ha
    have HU := Lib.hid hun
    have q0 : (0 : Int) ≤ (k' : Int) := by omega
    have q1 : (k' : Int) < (n : Int) := by omega
    have dk : decide ((k' : Int) < 0) = false := by simp
    clear ha hk hmem hat hkl hp hun hst haf4 hx
    go_wp2_with fail
    refine (flowAt_z v _ n c l s (k' : Int) _ (h.bel hWV) HA.out).mono ?_
    rintro e w5 ⟨rfl, hb5⟩
    have kf5 := kfV.bel hb5
    have kr5 := krV.bel hb5
    have hW5 := bel_nx hWV hb5
    clear cf cr fr hb5
    have cf5 := kf5.cell
    have e0 := cell_on hW5 hc0
    have e1 := cell_on hW5 hc1
    have e2 := cell_on hW5 hc2
    go_wp2_with fail
    go_region_law (first
      | (go_simp; go_at_call 65; refine (flowAt_z v _ n c l s (k' : Int) _ (by first | exact h.bel hW5 | exact (h.bel hW5).dr) HA.out).mono ?_; rintro e w6 ⟨rfl, hb6⟩; have hW6 : Below w.heap.size w w6 := (by first | exact bel_nx (bel_dr hW5) hb6 | exact bel_nx hW5 hb6); have kr6 := Blk.bel (by first | exact kr5.dr | exact kr5) hb6; have kf6 := Blk.bel (by first | exact kf5.dr | exact kf5) hb6; have cf6 := kf6.cell; have g0 := cell_on hW6 hc0; have g1 := cell_on hW6 hc1; have g2 := cell_on hW6 hc2)
      | (go_simp; go_at_call 72; refine (stepClone_c s B m d u af _ (by first | exact haf.bel hW6 | exact (haf.bel hW6).dr) hm).mono ?_; rintro e w7 ⟨D, dc, rfl, hb7⟩; have hW7 := bel_nx hW6 hb7; have kf7 := kf6.bel hb7; have cf7 := kf7.cell; have p0 := cell_on hW7 hc0; have kr7 := kr6.bel hb7; have cr7 := kr7.cell; have fr7 := kr7.frozen))
    all_goals
      go_wp2_with fail
      have K7 := ((kr7.set_ 0 (.string s)).set_ 1 (.slice D m dc)).set_ 2 (.bool u)
      have cz := K7.cell
      rw [HF.out]
      refine bodyPost_ret (v := .tuple #[.agg #[.string s, .slice D m dc, .bool u], .bool true]) (by simp [results, Try.results33, go_sem, cz]) rfl ⟨_, _, _, _, _, rfl, by rw [HU.out]; rfl, ?_⟩
      exact bel_set (bel_set (bel_set hW7 (by simp) _) (by simp) _) (by simp) _

end Go.Proofs.Ytdchfiiaollheaa
