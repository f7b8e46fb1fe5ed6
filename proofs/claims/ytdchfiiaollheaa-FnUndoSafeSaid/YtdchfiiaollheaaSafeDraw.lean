/- The draw of a flow whose steps can often all be undone. -/
import Derived.Test.YtdchfiiaollheaaOwnLast
import Derived.Test.YtdchfiiaollheaaRunDraw4
namespace Go.Proofs.Ytdchfiiaollheaa
open Go.RowKit

set_option maxRecDepth 20000 in
set_option maxHeartbeats 16000000 in
theorem drawUndoSafe_c (A : Option Addr) (n c : Nat) (zs : List Int) (w : World) (h : IsRow .u8 w A n c zs) : Calls Try.prog 15 #[.slice A n c] w fun e w' =>
    ∃ (v : Int) (S : Option Addr) (m d : Nat) (l : List Stp), e = .returned (.agg #[.int .i64 v, .slice S m d]) ∧ SlP w' S m d l ∧ Sm5 l ∧ 1 ≤ m ∧ m ≤ 6 ∧ Below w.heap.size w w' := by
  obtain ⟨i1', hi1, hy0, hy1, hy2⟩ := info_parts str_info
  have kz := Blk.new w 25 #[.int .i64 0, .slice none 0 0]
  have h0 := h.al (.cells #[.int .i64 0, .slice none 0 0] 25)
  have hW := bel_al (bel_refl w) (.cells #[.int .i64 0, .slice none 0 0] 25)
  go_enter Try.func15, Try.ntmps15
  go_wp2_with fail
  refine (l6Open_c A n c zs _ h0).mono ?_
  rintro e w1 ⟨R, rfl, hrd, hb1, hR⟩
  have kz1 := kz.bel hb1
  have hW1 := bel_nx hW hb1
  simp at hR
  have hRw0 : w.heap.size ≤ R := by omega
  have hRl := hrd.lt
  go_wp2_with fail
  refine (l91Flow_c R 951 _ hrd).mono ?_
  rintro e w2 ⟨v, S, m, d, l, rfl, ho, hm1, hm6, h5, hg2, hr2⟩
  obtain ⟨bO, hbO⟩ : ∃ b, b = w1.heap.size := ⟨_, rfl⟩
  rw [← hbO] at ho
  have hRO : R < bO := by omega
  have hwO : w.heap.size < bO := by omega
  have kz2 := kz1.grs hg2 (by omega)
  have hW2 := bel_gr hW1 hg2 hRw0
  have hs2 := hg2.size
  obtain ⟨g, hS, hg1a, hg1b⟩ := ho.form (by omega)
  subst hS
  obtain ⟨p, rfl⟩ : ∃ p, m = p + 1 := ⟨m - 1, by omega⟩
  obtain ⟨bF, hbF⟩ : ∃ b, b = w2.heap.size := ⟨_, rfl⟩
  have kF := Blk.new w2 25 #[.int .i64 v, .slice (some ⟨g, 0, none⟩) (p + 1) d]
  have hoF := ho.al (.cells #[.int .i64 v, .slice (some ⟨g, 0, none⟩) (p + 1) d] 25)
  have kzF := kz2.al (.cells #[.int .i64 v, .slice (some ⟨g, 0, none⟩) (p + 1) d] 25)
  have hrF := hr2.al (.cells #[.int .i64 v, .slice (some ⟨g, 0, none⟩) (p + 1) d] 25)
  have hWF := bel_al hW2 (.cells #[.int .i64 v, .slice (some ⟨g, 0, none⟩) (p + 1) d] 25)
  go_wp2_with fail
  rw [← hbF] at kF ⊢
  refine (pick_c R 950 _ _ hrF).mono ?_
  rintro e w4 ⟨v4, rfl, _, hg4, hr4⟩
  have hRF : bF ≠ R := by omega
  have kf4 := kF.grs hg4 hRF
  have ho4 := hoF.gr hg4 hRO
  have kz4 := kzF.grs hg4 (by omega)
  have hb4 := bel_gr hWF hg4 hRw0
  have hbFw : w.heap.size < bF := by omega
  have HBF := Lib.hid hbF
  have HBO := Lib.hid hbO
  have hbOF : bO ≤ bF := by omega
  clear hbF hbO
  have hwj : IntKind.i64.wrap (p : Int) = (p : Int) := by rw [IntKind.wrap_i64]; omega
  clear kF hoF kzF hrF hWF hg4 kz2 kz1 kz
  have cf4 := kf4.cell
  by_cases h40 : v4 = 0
  · have e4 : (v4 == 0) = true := by simpa using h40
    clear h40
    go_wp2_with fail
    go_loopw [5] (fun iv wr => ∃ (i : Nat) (l : List Stp), i ≤ p + 1 ∧ iv = .int .i64 (i : Int) ∧ Blk wr bF 25 #[.int .i64 v, .slice (some ⟨g, 0, none⟩) (p + 1) d] ∧ OwnQ wr bO (some ⟨g, 0, none⟩) (p + 1) d l ∧ Sm5 l ∧ Blk wr w.heap.size 25 #[.int .i64 0, .slice none 0 0] ∧ Rd wr R 950 ∧ Below w.heap.size w wr) (fun iv _ => p + 1 - (intOf iv).toNat)
    case atStart => exact ⟨0, l, by omega, rfl, kf4, ho4, h5, kz4, hr4, hb4⟩
    case round =>
      obtain ⟨i, l, hi, rfl, kfL, hoL, h5L, kzL, hrL, hbL⟩ := hrel
      have cfL := kfL.cell
      clear cf4
      obtain ⟨gl, hgl0, hgl1, hgl2⟩ := hoL.form (by omega)
      cases hgl0
      have ngF := hoL.ne kfL (by decide)
      have ngZ := hoL.ne kzL (by decide)
      by_cases hlt : i < p + 1
      · have i0 : (0 : Int) ≤ (i : Int) := by omega
        have i1 : (i : Int) < (p : Int) + 1 := by omega
        obtain ⟨⟨xu, hxu⟩, hfu⟩ := hoL.at_ (j := i * 3 + 2) (by omega)
        obtain ⟨su, hsu⟩ : ∃ s, l[i]? = some s := ⟨_, List.getElem?_eq_getElem (by rw [hoL.read.len]; omega)⟩
        have h5u := h5L _ (List.mem_of_getElem? hsu)
        go_wp2_with fail
        go_roundw
        case rel =>
          go_light
          exact ⟨i + 1, l.set i ⟨su.name, su.after, true⟩, by omega, by go_num, (kfL.far ngF _), hoL.setUndo (u := true) hsu, sm5_set h5L h5u.1 h5u.2.1 h5u.2.2, (kzL.far ngZ _), hrL.set_ (by simp; omega) _, bel_set hbL (by simp; omega) _⟩
        case measure => simp [intOf]; omega
      · obtain ⟨kfA, hoA, h5A, kzA, hrA, hbA⟩ := And.intro kfL (And.intro hoL (And.intro h5L (And.intro kzL (And.intro hrL hbL))))
        go_wp2_with fail
        clear cfL
        refine (pick_c R 949 _ _ hrA).mono ?_
        rintro e w8 ⟨v8, rfl, _, hg8, hr8⟩
        have kf8 := kfA.grs hg8 (by omega)
        have ho8 := hoA.gr hg8 hRO
        have kz8 := kzA.grs hg8 (by omega)
        have hb8 := bel_gr hbA hg8 hRw0
        have cf8 := kf8.cell
        by_cases h80 : v8 = 0
        · have e8 : (v8 == 0) = true := by simpa using h80
          clear h80
          go_wp2_with fail
          go_loopw [7] (fun iv wr => ∃ (i : Nat) (l : List Stp), i ≤ p ∧ iv = .int .i64 (i : Int) ∧ Blk wr bF 25 #[.int .i64 v, .slice (some ⟨g, 0, none⟩) (p + 1) d] ∧ OwnQ wr bO (some ⟨g, 0, none⟩) (p + 1) d l ∧ Sm5 l ∧ Blk wr w.heap.size 25 #[.int .i64 0, .slice none 0 0] ∧ Rd wr R 949 ∧ Below w.heap.size w wr) (fun iv _ => p - (intOf iv).toNat)
          case atStart => exact ⟨0, _, by omega, rfl, kf8, ho8, h5A, kz8, hr8, hb8⟩
          case round =>
            obtain ⟨i, l, hi, rfl, kfL, hoL, h5L, kzL, hrL, hbL⟩ := hrel
            have cfL := kfL.cell
            clear cf8
            obtain ⟨gl, hgl0, hgl1, hgl2⟩ := hoL.form (by omega)
            cases hgl0
            have ngF := hoL.ne kfL (by decide)
            have ngZ := hoL.ne kzL (by decide)
            by_cases hlt : i < p
            · have i0 : (0 : Int) ≤ (i : Int) := by omega
              have i1 : (i : Int) < (p : Int) + 1 := by omega
              have i2 : (i : Int) < (p : Int) := by omega
              obtain ⟨⟨xu, hxu⟩, hfu⟩ := hoL.at_ (j := i * 3 + 2) (by omega)
              obtain ⟨su, hsu⟩ : ∃ s, l[i]? = some s := ⟨_, List.getElem?_eq_getElem (by rw [hoL.read.len]; omega)⟩
              have h5u := h5L _ (List.mem_of_getElem? hsu)
              go_wp2_with fail
              go_roundw
              case rel =>
                go_light
                exact ⟨i + 1, l.set i ⟨su.name, su.after, true⟩, by omega, by go_num, (kfL.far ngF _), hoL.setUndo (u := true) hsu, sm5_set h5L h5u.1 h5u.2.1 h5u.2.2, (kzL.far ngZ _), hrL.set_ (by simp; omega) _, bel_set hbL (by simp; omega) _⟩
              case measure => simp [intOf]; omega
            · go_wp2_with fail
              refine (pick_c R 948 _ _ hrL).mono ?_
              rintro e wT ⟨v14, rfl, _, hg14, hr14⟩
              have kfT := kfL.grs hg14 (by omega)
              have hoT := hoL.gr hg14 hRO
              have kzT := kzL.grs hg14 (by omega)
              have hbT := bel_gr hbL hg14 hRw0
              have h5T := h5L
              have cfT := kfT.cell
              clear cfL
              by_cases h14 : v14 = 0
              · have e14 : (v14 == 0) = true := by simpa using h14
                clear h14
                rcases Nat.eq_zero_or_pos p with hp0 | hp0
                · subst hp0
                  obtain ⟨kfE, hoE, h5E, kzE, hbE⟩ := And.intro kfT (And.intro hoT (And.intro h5T (And.intro kzT hbT)))
                  have cfE := kfE.cell
                  have czE := kzE.cell
                  have fzE := kzE.frozen
                  clear cfT
                  go_wp2_with fail
                  have KE := (kzE.set_ 0 (.int .i64 v)).set_ 1 (.slice (some ⟨g, 0, none⟩) (0 + 1) d)
                  have cKE := KE.cell
                  refine bodyPost_ret (v := .agg #[.int .i64 v, .slice (some ⟨g, 0, none⟩) (0 + 1) d]) (by simp [results, Try.results15, go_sem, cKE]) rfl ?_
                  go_light
                  exact ⟨v, some ⟨g, 0, none⟩, 0 + 1, d, _, rfl, ((hoE.blk kzE (by decide) (by decide) (gr_cell _ _ _ _)).blk (kzE.set_ 0 _) (by decide) (by decide) (gr_cell _ _ _ _)).read, h5E, hm1, hm6, bel_set (bel_set hbE (by simp) _) (by simp) _⟩
                · have dp : decide ((0 : Int) < (p : Int)) = true := decide_eq_true (by omega)
                  have dp' : decide (0 < p) = true := decide_eq_true (by omega)
                  by_cases hp4 : p ≤ 4
                  · have dq : decide ((p : Int) ≤ 4) = true := decide_eq_true (by omega)
                    obtain ⟨⟨xa, hxa⟩, hfa⟩ := hoT.at_ (j := p * 3 + 1) (by omega)
                    obtain ⟨sp, hsp⟩ : ∃ s, l[p]? = some s := ⟨_, List.getElem?_eq_getElem (by rw [hoT.read.len]; omega)⟩
                    have h5p := h5T _ (List.mem_of_getElem? hsp)
                    obtain ⟨gl, hgl0, hgl1, hgl2⟩ := hoT.form (by omega)
                    cases hgl0
                    have ngF := hoT.ne kfT (by decide)
                    have ngZ := hoT.ne kzT (by decide)
                    have hbO : bO ≤ wT.heap.size := by have := kfT.lt; omega
                    have hOL := OwnL.start hoT (p := p) (by omega) hbO
                    have hxa1 := cell_al hxa (.cells #[] 9)
                    have hfa1 : (wT.alloc (.cells #[] 9)).frozen? ⟨g, p * 3 + 1, none⟩ = false := by rw [frozen_alloc_some _ _ _ (by rw [hxa]; rfl)]; exact hfa
                    have cfT := kfT.cell
                    go_wp2_with fail
                    obtain ⟨Wb, hWb⟩ : ∃ b, b = wT.heap.size := ⟨_, rfl⟩
                    have kf3 := (kfT.far (p := ⟨g, p * 3 + 1, none⟩) ngF (.slice (some ⟨wT.heap.size, 0, none⟩) 0 0)).al (.cells #[] 9)
                    have kz3 := (kzT.far (p := ⟨g, p * 3 + 1, none⟩) ngZ (.slice (some ⟨wT.heap.size, 0, none⟩) 0 0)).al (.cells #[] 9)
                    have hb3 := bel_al (bel_set hbT (p := ⟨g, p * 3 + 1, none⟩) (by simp; omega) (.slice (some ⟨wT.heap.size, 0, none⟩) 0 0)) (.cells #[] 9)
                    have hwW : w.heap.size ≤ wT.heap.size := hbT.size
                    have hw3 : wT.heap.size ≤ ((wT.setCell ⟨g, p * 3 + 1, none⟩ (.slice (some ⟨wT.heap.size, 0, none⟩) 0 0)).alloc (.cells #[] 9)).heap.size := by simp [World.setCell]
                    rw [← hWb] at hOL kf3 kz3 hb3 hwW hbO hw3 ⊢
                    have HWB := Lib.hid hWb
                    clear hWb
                    go_loopw [8] (fun iv wr => ∃ (i : Nat) (D : Option Addr) (dd : Nat) (ys : List ByteArray), i ≤ p ∧ iv = .int .i64 (i : Int) ∧ OwnL wr bO Wb g (p + 1) d p l D i dd ys ∧ Hid (∀ x ∈ ys, x.size ≤ 5) ∧ Blk wr bF 25 #[.int .i64 v, .slice (some ⟨g, 0, none⟩) (p + 1) d] ∧ Blk wr w.heap.size 25 #[.int .i64 0, .slice none 0 0] ∧ Wb ≤ wr.heap.size ∧ Below w.heap.size w wr) (fun iv _ => p - (intOf iv).toNat)
                    case atStart => exact ⟨0, _, 0, [], by omega, rfl, hOL, Lib.hid (fun x hx => by cases hx), kf3, kz3, hw3, hb3⟩
                    case round =>
                      obtain ⟨i, D, dd, ys, hi, rfl, hOI, HY, kfI, kzI, hWI, hbI⟩ := hrel
                      have hszI := hbI.size
                      have hD6 := hOI.own
                      obtain ⟨xsI, hrowI⟩ := hOI.row
                      clear cfT
                      by_cases hlt : i < p
                      · obtain ⟨si, hsi, hn6⟩ := hOI.name (i := i) (by omega)
                        have hsi5 := (h5T _ (List.mem_of_getElem? hsi)).1
                        have hal := hOI.last (by omega)
                        have hnF := own_ne_blk hD6 kfI (by decide)
                        have hnZ := own_ne_blk hD6 kzI (by decide)
                        have hnG : (Value.slice D i dd).ownBlock = none ∨ (Value.slice D i dd).ownBlock ≠ some g := own_ne_own (ownsRow_base hD6 hbO) hrowI (by decide)
                        have x2 : wr.cell? ⟨bF, 1, none⟩ = some (.slice (some ⟨g, 0, none⟩) (p + 1) d) := kfI.cell 1
                        have hlg : g < wr.heap.size := cell_some_lt (w := wr) (p := ⟨g, i * 3, none⟩) (by rw [hn6]; rfl)
                        have hNE := own_ne_own hrowI (ownsRow_base hD6 hbO) (by decide)
                        have i0 : (0 : Int) ≤ (i : Int) := by omega
                        have i1 : (i : Int) < (p : Int) + 1 := by omega
                        have i2 : (i : Int) < (p : Int) := by omega
                        have p0 : (0 : Int) ≤ (p : Int) := by omega
                        have p1 : (p : Int) < (p : Int) + 1 := by omega
                        have hip : p * 3 + 1 ≠ i * 3 := by omega
                        go_wp2_with fail
                        refine wp_region_held_drew (S := (fun w' => w'.cell? ⟨bF, 1, none⟩ = some (.slice (some ⟨g, 0, none⟩) (p + 1) d) ∧ w'.cell? ⟨g, i * 3, none⟩ = some (.string si.name))) (by kernel_rfl) ⟨cell_dr x2, cell_dr hn6⟩ (fun hHeld => ?_)
                        refine wpAnyH_take (i := 0) (v := ?_) rfl (by kernel_rfl) (by kernel_rfl) (by kernel_rfl) (fun _ _ _ h => h) (Or.inl ⟨by kernel_rfl, ?_⟩) (by assumption) ?_
                        rotate_left 1
                        · intro w' hSw; (try dsimp only at hSw); go_simp; try with_reducible rfl
                        simp only [Act.put, List.getElem_toArray, List.getElem_cons_zero, List.setIfInBounds_toArray, List.set_cons_zero, List.set_cons_succ]
                        refine wpAnyH_take (i := 1) (v := ?_) rfl (by kernel_rfl) (by kernel_rfl) (by kernel_rfl) (fun _ _ _ h => h) (Or.inl ⟨by kernel_rfl, ?_⟩) (by assumption) ?_
                        rotate_left 1
                        · intro w' hSw; (try dsimp only at hSw); go_simp; try with_reducible rfl
                        simp only [Act.put, List.getElem_toArray, List.getElem_cons_zero, List.getElem_cons_succ, List.setIfInBounds_toArray, List.set_cons_zero, List.set_cons_succ]
                        refine wpAnyH_take (i := 2) (v := ?_) rfl (by kernel_rfl) (by kernel_rfl) (by kernel_rfl) (fun _ _ _ h => h) (Or.inl ⟨by kernel_rfl, ?_⟩) (by assumption) ?_
                        rotate_left 1
                        · intro w' hSw; (try dsimp only at hSw); go_simp; try with_reducible rfl
                        simp only [Act.put, List.getElem_toArray, List.getElem_cons_zero, List.getElem_cons_succ, List.setIfInBounds_toArray, List.set_cons_zero, List.set_cons_succ]
                        refine wpAnyH_take (i := 3) (v := ?_) rfl (by kernel_rfl) (by kernel_rfl) (by kernel_rfl) (fun _ _ _ h => h) (Or.inl ⟨by kernel_rfl, ?_⟩) (by assumption) ?_
                        rotate_left 1
                        · intro w' hSw; (try dsimp only at hSw); go_simp; try with_reducible rfl
                        simp only [Act.put, List.getElem_toArray, List.getElem_cons_zero, List.getElem_cons_succ, List.setIfInBounds_toArray, List.set_cons_zero, List.set_cons_succ]
                        refine wpAnyH_take (i := 4) (v := ?_) rfl (by kernel_rfl) (by kernel_rfl) (by kernel_rfl) (fun _ _ _ h => h) (Or.inl ⟨by kernel_rfl, ?_⟩) (by assumption) ?_
                        rotate_left 1
                        · intro w' hSw; (try dsimp only at hSw); go_simp; try with_reducible rfl
                        simp only [Act.put, List.getElem_toArray, List.getElem_cons_zero, List.getElem_cons_succ, List.setIfInBounds_toArray, List.set_cons_zero, List.set_cons_succ]
                        refine wpAnyH_take (i := 5) (v := ?_) rfl (by kernel_rfl) (by kernel_rfl) (by kernel_rfl) (fun _ _ _ h => h) (Or.inl ⟨by kernel_rfl, ?_⟩) (by assumption) ?_
                        rotate_left 1
                        · intro w' hSw; (try dsimp only at hSw); go_simp; try with_reducible rfl
                        simp only [Act.put, List.getElem_toArray, List.getElem_cons_zero, List.getElem_cons_succ, List.setIfInBounds_toArray, List.set_cons_zero, List.set_cons_succ]
                        refine wpAnyH_take (i := 6) (v := ?_) rfl (by kernel_rfl) (by kernel_rfl) (by kernel_rfl) (fun _ _ _ h => h) (Or.inl ⟨by kernel_rfl, ?_⟩) (by assumption) ?_
                        rotate_left 1
                        · intro w' hSw; (try dsimp only at hSw); go_simp; try with_reducible rfl
                        simp only [Act.put, List.getElem_toArray, List.getElem_cons_zero, List.getElem_cons_succ, List.setIfInBounds_toArray, List.set_cons_zero, List.set_cons_succ]
                        refine wpAnyH_take (i := 7) (v := ?_) rfl (by kernel_rfl) (by kernel_rfl) (by kernel_rfl) (fun _ _ _ h => h) (Or.inl ⟨by kernel_rfl, ?_⟩) (by assumption) ?_
                        rotate_left 1
                        · intro w' hSw; (try dsimp only at hSw); go_simp; try with_reducible rfl
                        simp only [Act.put, List.getElem_toArray, List.getElem_cons_zero, List.getElem_cons_succ, List.setIfInBounds_toArray, List.set_cons_zero, List.set_cons_succ]
                        refine wpAnyH_take (i := 9) (v := ?_) rfl (by kernel_rfl) (by kernel_rfl) (by kernel_rfl) (fun _ _ _ h => h) (Or.inl ⟨by kernel_rfl, ?_⟩) (by assumption) ?_
                        rotate_left 1
                        · intro w' hSw; (try dsimp only at hSw); go_simp; try with_reducible rfl
                        simp only [Act.put, List.getElem_toArray, List.getElem_cons_zero, List.getElem_cons_succ, List.setIfInBounds_toArray, List.set_cons_zero, List.set_cons_succ]
                        refine wpAnyH_take (i := 10) (v := ?_) rfl (by kernel_rfl) (by kernel_rfl) (by kernel_rfl) (fun _ _ _ h => h) (Or.inl ⟨by kernel_rfl, ?_⟩) (by assumption) ?_
                        rotate_left 1
                        · intro w' hSw; (try dsimp only at hSw); go_simp; try with_reducible rfl
                        simp only [Act.put, List.getElem_toArray, List.getElem_cons_zero, List.getElem_cons_succ, List.setIfInBounds_toArray, List.set_cons_zero, List.set_cons_succ]
                        refine wpAnyH_take (i := 11) (v := ?_) rfl (by kernel_rfl) (by kernel_rfl) (by kernel_rfl) (fun _ _ _ h => h) (Or.inl ⟨by kernel_rfl, ?_⟩) (by assumption) ?_
                        rotate_left 1
                        · intro w' hSw; (try dsimp only at hSw); go_simp; try with_reducible rfl
                        simp only [Act.put, List.getElem_toArray, List.getElem_cons_zero, List.getElem_cons_succ, List.setIfInBounds_toArray, List.set_cons_zero, List.set_cons_succ]
                        refine wpAnyH_take (i := 12) (v := ?_) rfl (by kernel_rfl) (by kernel_rfl) (by kernel_rfl) (fun _ _ _ h => h) (Or.inl ⟨by kernel_rfl, ?_⟩) (by assumption) ?_
                        rotate_left 1
                        · intro w' hSw; (try dsimp only at hSw); go_simp; try with_reducible rfl
                        simp only [Act.put, List.getElem_toArray, List.getElem_cons_zero, List.getElem_cons_succ, List.setIfInBounds_toArray, List.set_cons_zero, List.set_cons_succ]
                        refine wpAnyH_take (i := 13) (v := ?_) rfl (by kernel_rfl) (by kernel_rfl) (by kernel_rfl) (fun _ _ _ h => h) (Or.inl ⟨by kernel_rfl, ?_⟩) (by assumption) ?_
                        rotate_left 1
                        · intro w' hSw; (try dsimp only at hSw); go_simp; try with_reducible rfl
                        simp only [Act.put, List.getElem_toArray, List.getElem_cons_zero, List.getElem_cons_succ, List.setIfInBounds_toArray, List.set_cons_zero, List.set_cons_succ]
                        refine wpAnyH_take (i := 14) (v := ?_) rfl (by kernel_rfl) (by kernel_rfl) (by kernel_rfl) (fun _ _ _ h => h) (Or.inl ⟨by kernel_rfl, ?_⟩) (by assumption) ?_
                        rotate_left 1
                        · intro w' hSw; (try dsimp only at hSw); go_simp; try with_reducible rfl
                        simp only [Act.put, List.getElem_toArray, List.getElem_cons_zero, List.getElem_cons_succ, List.setIfInBounds_toArray, List.set_cons_zero, List.set_cons_succ]
                        refine wpAnyH_ready (rs := [8, 15]) (by kernel_rfl) (by simp) ?_
                        refine AllReadyH.cons rfl (fun K hK => ?_) (AllReadyH.cons rfl (fun K hK => ?_) AllReadyH.nil)
                        · go_simp
                          refine hK.out _ _ ⟨cell_dr x2, cell_dr hn6⟩ (fun hHeld => ?_)
                          clear hK K
                          try simp only [Act.put, List.getElem_toArray, List.getElem_cons_zero, List.getElem_cons_succ, List.setIfInBounds_toArray, List.set_cons_zero, List.set_cons_succ]
                          refine wpAnyH_ready (rs := [15]) (by kernel_rfl) (by simp) ?_
                          refine AllReadyH.cons rfl (fun K hK => ?_) AllReadyH.nil
                          go_simp
                          refine hK.out _ _ ⟨cell_dr (cell_al x2 _), cell_dr (cell_al hn6 _)⟩ (fun hHeld => ?_)
                          clear hK K
                          try simp only [Act.put, List.getElem_toArray, List.getElem_cons_zero, List.getElem_cons_succ, List.setIfInBounds_toArray, List.set_cons_zero, List.set_cons_succ]
                          refine wpAnyH_ready (rs := [16]) (by kernel_rfl) (by simp) ?_
                          refine AllReadyH.cons rfl (fun K hK => ?_) AllReadyH.nil
                          refine step_append_sl (enc := encS) (by rfl) _ _ 28 (by rfl) Wb 9 i1' (.string ByteArray.empty) 1 16 Try.underlying28 hi1 hy0 hy1 hy2 rfl (by decide) (.slice D i dd) i (ys.map Value.string) (by rfl) (own_dr' hD6) (some ⟨wr.heap.size, 0, none⟩) 1 1 [si.name] (by rfl) (fun _ => rfl) (sl_one_dr wr si.name) one_S (by unfold maxLen; omega) (by omega) (by simp; omega) ?_; intro v7 w7 ho7 hg7 hl7; obtain ⟨A7, c7, rfl⟩ := own_form ho7; rw [flat_encS, ← List.map_append] at ho7; have kf7 := app_dr kfI hg7 (fun e => hnF e.symm); have kz7 := app_dr kzI hg7 (fun e => hnZ e.symm); have hg7' := first_gr' hg7; have y2 : w7.cell? ⟨bF, 1, none⟩ = some (.slice (some ⟨g, 0, none⟩) (p + 1) d) := kf7.cell 1; have y3 : w7.cell? ⟨g, i * 3, none⟩ = some (.string si.name) := app_cell hn6 hg7 (fun e => hnG.elim (fun h => by rw [h] at e; cases e) (fun h => h e.symm)); have y4 : w7.cell? ⟨g, p * 3 + 1, none⟩ = some (.slice D i dd) := app_cell hal hg7 (fun e => hnG.elim (fun h => by rw [h] at e; cases e) (fun h => h e.symm)); have y5 : w7.frozen? ⟨g, p * 3 + 1, none⟩ = false := ((hrowI.alloc _).kept hg7' hNE).frozenAt _
                          refine hK.out _ _ ⟨y2, y3⟩ (fun hHeld => ?_)
                          clear hK K
                          try simp only [Act.put, List.getElem_toArray, List.getElem_cons_zero, List.getElem_cons_succ, List.setIfInBounds_toArray, List.set_cons_zero, List.set_cons_succ]
                          refine wpAnyH_take (i := 17) (v := ?_) rfl (by kernel_rfl) (by kernel_rfl) (by kernel_rfl) (fun _ _ _ h => h) (Or.inl ⟨by kernel_rfl, ?_⟩) (by assumption) ?_
                          rotate_left 1
                          · intro w' hSw; (try dsimp only at hSw); go_simp; try with_reducible rfl
                          simp only [Act.put, List.getElem_toArray, List.getElem_cons_zero, List.getElem_cons_succ, List.setIfInBounds_toArray, List.set_cons_zero, List.set_cons_succ]
                          refine wpAnyH_take (i := 18) (v := ?_) rfl (by kernel_rfl) (by kernel_rfl) (by kernel_rfl) (fun _ _ _ h => h) (Or.inl ⟨by kernel_rfl, ?_⟩) (by assumption) ?_
                          rotate_left 1
                          · intro w' hSw; (try dsimp only at hSw); go_simp; try with_reducible rfl
                          simp only [Act.put, List.getElem_toArray, List.getElem_cons_zero, List.getElem_cons_succ, List.setIfInBounds_toArray, List.set_cons_zero, List.set_cons_succ]
                          refine wpAnyH_ready (rs := [19]) (by kernel_rfl) (by simp) ?_
                          refine AllReadyH.cons rfl (fun K hK => ?_) AllReadyH.nil
                          go_simp
                          refine hK.out _ _ ⟨cell_st y2 ngF _, cell_so y3 hip _⟩ (fun hHeld => ?_)
                          clear hK K
                          try simp only [Act.put, List.getElem_toArray, List.getElem_cons_zero, List.getElem_cons_succ, List.setIfInBounds_toArray, List.set_cons_zero, List.set_cons_succ]
                          refine wpAnyH_done (by kernel_rfl) ?_ _
                          go_wp2_with fail
                          go_roundw
                          case measure => simp [intOf]; omega
                          go_light
                          have hz7 := hg7.size
                          simp at hz7
                          refine ⟨i + 1, A7, c7, ys ++ [si.name], by omega, by go_num, hOI.step (by omega) hg7' ho7, Lib.hid (fun x hx => ?_), kf7.far ngF _, kz7.far ngZ _, by simp [World.setCell]; omega, ?_⟩
                          · rcases List.mem_append.1 hx with hx | hx
                            · exact HY.out x hx
                            · simp at hx; subst hx; exact hsi5
                          · exact bel_set (Below.grown (hbI.alloc hszI _) hg7' (by simp; omega) (fun q hq => by have := (hD6.lt q hq).1; omega)) (by simp; omega) _
                        · go_simp
                          refine hK.out _ _ ⟨cell_dr (cell_al x2 _), cell_dr (cell_al hn6 _)⟩ (fun hHeld => ?_)
                          clear hK K
                          try simp only [Act.put, List.getElem_toArray, List.getElem_cons_zero, List.getElem_cons_succ, List.setIfInBounds_toArray, List.set_cons_zero, List.set_cons_succ]
                          refine wpAnyH_ready (rs := [8]) (by kernel_rfl) (by simp) ?_
                          refine AllReadyH.cons rfl (fun K hK => ?_) AllReadyH.nil
                          go_simp
                          refine hK.out _ _ ⟨cell_dr (cell_al x2 _), cell_dr (cell_al hn6 _)⟩ (fun hHeld => ?_)
                          clear hK K
                          try simp only [Act.put, List.getElem_toArray, List.getElem_cons_zero, List.getElem_cons_succ, List.setIfInBounds_toArray, List.set_cons_zero, List.set_cons_succ]
                          refine wpAnyH_ready (rs := [16]) (by kernel_rfl) (by simp) ?_
                          refine AllReadyH.cons rfl (fun K hK => ?_) AllReadyH.nil
                          refine step_append_sl (enc := encS) (by rfl) _ _ 28 (by rfl) Wb 9 i1' (.string ByteArray.empty) 1 16 Try.underlying28 hi1 hy0 hy1 hy2 rfl (by decide) (.slice D i dd) i (ys.map Value.string) (by rfl) (own_dr' hD6) (some ⟨wr.heap.size, 0, none⟩) 1 1 [si.name] (by rfl) (fun _ => rfl) (sl_one_dr wr si.name) one_S (by unfold maxLen; omega) (by omega) (by simp; omega) ?_; intro v7 w7 ho7 hg7 hl7; obtain ⟨A7, c7, rfl⟩ := own_form ho7; rw [flat_encS, ← List.map_append] at ho7; have kf7 := app_dr kfI hg7 (fun e => hnF e.symm); have kz7 := app_dr kzI hg7 (fun e => hnZ e.symm); have hg7' := first_gr' hg7; have y2 : w7.cell? ⟨bF, 1, none⟩ = some (.slice (some ⟨g, 0, none⟩) (p + 1) d) := kf7.cell 1; have y3 : w7.cell? ⟨g, i * 3, none⟩ = some (.string si.name) := app_cell hn6 hg7 (fun e => hnG.elim (fun h => by rw [h] at e; cases e) (fun h => h e.symm)); have y4 : w7.cell? ⟨g, p * 3 + 1, none⟩ = some (.slice D i dd) := app_cell hal hg7 (fun e => hnG.elim (fun h => by rw [h] at e; cases e) (fun h => h e.symm)); have y5 : w7.frozen? ⟨g, p * 3 + 1, none⟩ = false := ((hrowI.alloc _).kept hg7' hNE).frozenAt _
                          refine hK.out _ _ ⟨y2, y3⟩ (fun hHeld => ?_)
                          clear hK K
                          try simp only [Act.put, List.getElem_toArray, List.getElem_cons_zero, List.getElem_cons_succ, List.setIfInBounds_toArray, List.set_cons_zero, List.set_cons_succ]
                          refine wpAnyH_take (i := 17) (v := ?_) rfl (by kernel_rfl) (by kernel_rfl) (by kernel_rfl) (fun _ _ _ h => h) (Or.inl ⟨by kernel_rfl, ?_⟩) (by assumption) ?_
                          rotate_left 1
                          · intro w' hSw; (try dsimp only at hSw); go_simp; try with_reducible rfl
                          simp only [Act.put, List.getElem_toArray, List.getElem_cons_zero, List.getElem_cons_succ, List.setIfInBounds_toArray, List.set_cons_zero, List.set_cons_succ]
                          refine wpAnyH_take (i := 18) (v := ?_) rfl (by kernel_rfl) (by kernel_rfl) (by kernel_rfl) (fun _ _ _ h => h) (Or.inl ⟨by kernel_rfl, ?_⟩) (by assumption) ?_
                          rotate_left 1
                          · intro w' hSw; (try dsimp only at hSw); go_simp; try with_reducible rfl
                          simp only [Act.put, List.getElem_toArray, List.getElem_cons_zero, List.getElem_cons_succ, List.setIfInBounds_toArray, List.set_cons_zero, List.set_cons_succ]
                          refine wpAnyH_ready (rs := [19]) (by kernel_rfl) (by simp) ?_
                          refine AllReadyH.cons rfl (fun K hK => ?_) AllReadyH.nil
                          go_simp
                          refine hK.out _ _ ⟨cell_st y2 ngF _, cell_so y3 hip _⟩ (fun hHeld => ?_)
                          clear hK K
                          try simp only [Act.put, List.getElem_toArray, List.getElem_cons_zero, List.getElem_cons_succ, List.setIfInBounds_toArray, List.set_cons_zero, List.set_cons_succ]
                          refine wpAnyH_done (by kernel_rfl) ?_ _
                          go_wp2_with fail
                          go_roundw
                          case measure => simp [intOf]; omega
                          go_light
                          have hz7 := hg7.size
                          simp at hz7
                          refine ⟨i + 1, A7, c7, ys ++ [si.name], by omega, by go_num, hOI.step (by omega) hg7' ho7, Lib.hid (fun x hx => ?_), kf7.far ngF _, kz7.far ngZ _, by simp [World.setCell]; omega, ?_⟩
                          · rcases List.mem_append.1 hx with hx | hx
                            · exact HY.out x hx
                            · simp at hx; subst hx; exact hsi5
                          · exact bel_set (Below.grown (hbI.alloc hszI _) hg7' (by simp; omega) (fun q hq => by have := (hD6.lt q hq).1; omega)) (by simp; omega) _
                      · have hip : i = p := by omega
                        subst hip
                        have hoE0 := hOI.toQ hsp
                        have hlen := hD6.1
                        simp at hlen
                        obtain ⟨kfE, hoE, h5E, kzE, hbE⟩ := And.intro kfI (And.intro hoE0 (And.intro (sm5_set (p := ⟨sp.name, ys, sp.undo⟩) h5T h5p.1 (by show ys.length ≤ 4; omega) HY.out) (And.intro kzI hbI)))
                        have cfE := kfE.cell
                        have czE := kzE.cell
                        have fzE := kzE.frozen
                        go_wp2_with fail
                        have KE := (kzE.set_ 0 (.int .i64 v)).set_ 1 (.slice (some ⟨g, 0, none⟩) (i + 1) d)
                        have cKE := KE.cell
                        refine bodyPost_ret (v := .agg #[.int .i64 v, .slice (some ⟨g, 0, none⟩) (i + 1) d]) (by simp [results, Try.results15, go_sem, cKE]) rfl ?_
                        go_light
                        exact ⟨v, some ⟨g, 0, none⟩, i + 1, d, _, rfl, ((hoE.blk kzE (by decide) (by decide) (gr_cell _ _ _ _)).blk (kzE.set_ 0 _) (by decide) (by decide) (gr_cell _ _ _ _)).read, h5E, hm1, hm6, bel_set (bel_set hbE (by simp) _) (by simp) _⟩
                  · have dq : decide ((p : Int) ≤ 4) = false := decide_eq_false (by omega)
                    obtain ⟨kfE, hoE, h5E, kzE, hbE⟩ := And.intro kfT (And.intro hoT (And.intro h5T (And.intro kzT hbT)))
                    have cfE := kfE.cell
                    have czE := kzE.cell
                    have fzE := kzE.frozen
                    clear cfT
                    go_wp2_with fail
                    have KE := (kzE.set_ 0 (.int .i64 v)).set_ 1 (.slice (some ⟨g, 0, none⟩) (p + 1) d)
                    have cKE := KE.cell
                    refine bodyPost_ret (v := .agg #[.int .i64 v, .slice (some ⟨g, 0, none⟩) (p + 1) d]) (by simp [results, Try.results15, go_sem, cKE]) rfl ?_
                    go_light
                    exact ⟨v, some ⟨g, 0, none⟩, p + 1, d, _, rfl, ((hoE.blk kzE (by decide) (by decide) (gr_cell _ _ _ _)).blk (kzE.set_ 0 _) (by decide) (by decide) (gr_cell _ _ _ _)).read, h5E, hm1, hm6, bel_set (bel_set hbE (by simp) _) (by simp) _⟩
              · have e14 : (v14 == 0) = false := by simpa using h14
                clear h14
                obtain ⟨kfE, hoE, h5E, kzE, hbE⟩ := And.intro kfT (And.intro hoT (And.intro h5T (And.intro kzT hbT)))
                have cfE := kfE.cell
                have czE := kzE.cell
                have fzE := kzE.frozen
                clear cfT
                go_wp2_with fail
                have KE := (kzE.set_ 0 (.int .i64 v)).set_ 1 (.slice (some ⟨g, 0, none⟩) (p + 1) d)
                have cKE := KE.cell
                refine bodyPost_ret (v := .agg #[.int .i64 v, .slice (some ⟨g, 0, none⟩) (p + 1) d]) (by simp [results, Try.results15, go_sem, cKE]) rfl ?_
                go_light
                exact ⟨v, some ⟨g, 0, none⟩, p + 1, d, _, rfl, ((hoE.blk kzE (by decide) (by decide) (gr_cell _ _ _ _)).blk (kzE.set_ 0 _) (by decide) (by decide) (gr_cell _ _ _ _)).read, h5E, hm1, hm6, bel_set (bel_set hbE (by simp) _) (by simp) _⟩
        · have e8 : (v8 == 0) = false := by simpa using h80
          clear h80
          obtain ⟨kfE, hoE, h5E, kzE, hbE⟩ := And.intro kf8 (And.intro ho8 (And.intro h5A (And.intro kz8 hb8)))
          have cfE := kfE.cell
          have czE := kzE.cell
          have fzE := kzE.frozen
          clear cf8
          go_wp2_with fail
          have KE := (kzE.set_ 0 (.int .i64 v)).set_ 1 (.slice (some ⟨g, 0, none⟩) (p + 1) d)
          have cKE := KE.cell
          refine bodyPost_ret (v := .agg #[.int .i64 v, .slice (some ⟨g, 0, none⟩) (p + 1) d]) (by simp [results, Try.results15, go_sem, cKE]) rfl ?_
          go_light
          exact ⟨v, some ⟨g, 0, none⟩, p + 1, d, _, rfl, ((hoE.blk kzE (by decide) (by decide) (gr_cell _ _ _ _)).blk (kzE.set_ 0 _) (by decide) (by decide) (gr_cell _ _ _ _)).read, h5E, hm1, hm6, bel_set (bel_set hbE (by simp) _) (by simp) _⟩
  · have e4 : (v4 == 0) = false := by simpa using h40
    clear h40
    obtain ⟨kfA, hoA, h5A, kzA, hrA, hbA⟩ := And.intro kf4 (And.intro ho4 (And.intro h5 (And.intro kz4 (And.intro hr4 hb4))))
    go_wp2_with fail
    clear cf4
    refine (pick_c R 949 _ _ hrA).mono ?_
    rintro e w8 ⟨v8, rfl, _, hg8, hr8⟩
    have kf8 := kfA.grs hg8 (by omega)
    have ho8 := hoA.gr hg8 hRO
    have kz8 := kzA.grs hg8 (by omega)
    have hb8 := bel_gr hbA hg8 hRw0
    have cf8 := kf8.cell
    by_cases h80 : v8 = 0
    · have e8 : (v8 == 0) = true := by simpa using h80
      clear h80
      go_wp2_with fail
      go_loopw [7] (fun iv wr => ∃ (i : Nat) (l : List Stp), i ≤ p ∧ iv = .int .i64 (i : Int) ∧ Blk wr bF 25 #[.int .i64 v, .slice (some ⟨g, 0, none⟩) (p + 1) d] ∧ OwnQ wr bO (some ⟨g, 0, none⟩) (p + 1) d l ∧ Sm5 l ∧ Blk wr w.heap.size 25 #[.int .i64 0, .slice none 0 0] ∧ Rd wr R 949 ∧ Below w.heap.size w wr) (fun iv _ => p - (intOf iv).toNat)
      case atStart => exact ⟨0, _, by omega, rfl, kf8, ho8, h5A, kz8, hr8, hb8⟩
      case round =>
        obtain ⟨i, l, hi, rfl, kfL, hoL, h5L, kzL, hrL, hbL⟩ := hrel
        have cfL := kfL.cell
        clear cf8
        obtain ⟨gl, hgl0, hgl1, hgl2⟩ := hoL.form (by omega)
        cases hgl0
        have ngF := hoL.ne kfL (by decide)
        have ngZ := hoL.ne kzL (by decide)
        by_cases hlt : i < p
        · have i0 : (0 : Int) ≤ (i : Int) := by omega
          have i1 : (i : Int) < (p : Int) + 1 := by omega
          have i2 : (i : Int) < (p : Int) := by omega
          obtain ⟨⟨xu, hxu⟩, hfu⟩ := hoL.at_ (j := i * 3 + 2) (by omega)
          obtain ⟨su, hsu⟩ : ∃ s, l[i]? = some s := ⟨_, List.getElem?_eq_getElem (by rw [hoL.read.len]; omega)⟩
          have h5u := h5L _ (List.mem_of_getElem? hsu)
          go_wp2_with fail
          go_roundw
          case rel =>
            go_light
            exact ⟨i + 1, l.set i ⟨su.name, su.after, true⟩, by omega, by go_num, (kfL.far ngF _), hoL.setUndo (u := true) hsu, sm5_set h5L h5u.1 h5u.2.1 h5u.2.2, (kzL.far ngZ _), hrL.set_ (by simp; omega) _, bel_set hbL (by simp; omega) _⟩
          case measure => simp [intOf]; omega
        · go_wp2_with fail
          refine (pick_c R 948 _ _ hrL).mono ?_
          rintro e wT ⟨v14, rfl, _, hg14, hr14⟩
          have kfT := kfL.grs hg14 (by omega)
          have hoT := hoL.gr hg14 hRO
          have kzT := kzL.grs hg14 (by omega)
          have hbT := bel_gr hbL hg14 hRw0
          have h5T := h5L
          have cfT := kfT.cell
          clear cfL
          by_cases h14 : v14 = 0
          · have e14 : (v14 == 0) = true := by simpa using h14
            clear h14
            rcases Nat.eq_zero_or_pos p with hp0 | hp0
            · subst hp0
              obtain ⟨kfE, hoE, h5E, kzE, hbE⟩ := And.intro kfT (And.intro hoT (And.intro h5T (And.intro kzT hbT)))
              have cfE := kfE.cell
              have czE := kzE.cell
              have fzE := kzE.frozen
              clear cfT
              go_wp2_with fail
              have KE := (kzE.set_ 0 (.int .i64 v)).set_ 1 (.slice (some ⟨g, 0, none⟩) (0 + 1) d)
              have cKE := KE.cell
              refine bodyPost_ret (v := .agg #[.int .i64 v, .slice (some ⟨g, 0, none⟩) (0 + 1) d]) (by simp [results, Try.results15, go_sem, cKE]) rfl ?_
              go_light
              exact ⟨v, some ⟨g, 0, none⟩, 0 + 1, d, _, rfl, ((hoE.blk kzE (by decide) (by decide) (gr_cell _ _ _ _)).blk (kzE.set_ 0 _) (by decide) (by decide) (gr_cell _ _ _ _)).read, h5E, hm1, hm6, bel_set (bel_set hbE (by simp) _) (by simp) _⟩
            · have dp : decide ((0 : Int) < (p : Int)) = true := decide_eq_true (by omega)
              have dp' : decide (0 < p) = true := decide_eq_true (by omega)
              by_cases hp4 : p ≤ 4
              · have dq : decide ((p : Int) ≤ 4) = true := decide_eq_true (by omega)
                obtain ⟨⟨xa, hxa⟩, hfa⟩ := hoT.at_ (j := p * 3 + 1) (by omega)
                obtain ⟨sp, hsp⟩ : ∃ s, l[p]? = some s := ⟨_, List.getElem?_eq_getElem (by rw [hoT.read.len]; omega)⟩
                have h5p := h5T _ (List.mem_of_getElem? hsp)
                obtain ⟨gl, hgl0, hgl1, hgl2⟩ := hoT.form (by omega)
                cases hgl0
                have ngF := hoT.ne kfT (by decide)
                have ngZ := hoT.ne kzT (by decide)
                have hbO : bO ≤ wT.heap.size := by have := kfT.lt; omega
                have hOL := OwnL.start hoT (p := p) (by omega) hbO
                have hxa1 := cell_al hxa (.cells #[] 9)
                have hfa1 : (wT.alloc (.cells #[] 9)).frozen? ⟨g, p * 3 + 1, none⟩ = false := by rw [frozen_alloc_some _ _ _ (by rw [hxa]; rfl)]; exact hfa
                have cfT := kfT.cell
                go_wp2_with fail
                obtain ⟨Wb, hWb⟩ : ∃ b, b = wT.heap.size := ⟨_, rfl⟩
                have kf3 := (kfT.far (p := ⟨g, p * 3 + 1, none⟩) ngF (.slice (some ⟨wT.heap.size, 0, none⟩) 0 0)).al (.cells #[] 9)
                have kz3 := (kzT.far (p := ⟨g, p * 3 + 1, none⟩) ngZ (.slice (some ⟨wT.heap.size, 0, none⟩) 0 0)).al (.cells #[] 9)
                have hb3 := bel_al (bel_set hbT (p := ⟨g, p * 3 + 1, none⟩) (by simp; omega) (.slice (some ⟨wT.heap.size, 0, none⟩) 0 0)) (.cells #[] 9)
                have hwW : w.heap.size ≤ wT.heap.size := hbT.size
                have hw3 : wT.heap.size ≤ ((wT.setCell ⟨g, p * 3 + 1, none⟩ (.slice (some ⟨wT.heap.size, 0, none⟩) 0 0)).alloc (.cells #[] 9)).heap.size := by simp [World.setCell]
                rw [← hWb] at hOL kf3 kz3 hb3 hwW hbO hw3 ⊢
                have HWB := Lib.hid hWb
                clear hWb
                go_loopw [8] (fun iv wr => ∃ (i : Nat) (D : Option Addr) (dd : Nat) (ys : List ByteArray), i ≤ p ∧ iv = .int .i64 (i : Int) ∧ OwnL wr bO Wb g (p + 1) d p l D i dd ys ∧ Hid (∀ x ∈ ys, x.size ≤ 5) ∧ Blk wr bF 25 #[.int .i64 v, .slice (some ⟨g, 0, none⟩) (p + 1) d] ∧ Blk wr w.heap.size 25 #[.int .i64 0, .slice none 0 0] ∧ Wb ≤ wr.heap.size ∧ Below w.heap.size w wr) (fun iv _ => p - (intOf iv).toNat)
                case atStart => exact ⟨0, _, 0, [], by omega, rfl, hOL, Lib.hid (fun x hx => by cases hx), kf3, kz3, hw3, hb3⟩
                case round =>
                  obtain ⟨i, D, dd, ys, hi, rfl, hOI, HY, kfI, kzI, hWI, hbI⟩ := hrel
                  have hszI := hbI.size
                  have hD6 := hOI.own
                  obtain ⟨xsI, hrowI⟩ := hOI.row
                  clear cfT
                  by_cases hlt : i < p
                  · obtain ⟨si, hsi, hn6⟩ := hOI.name (i := i) (by omega)
                    have hsi5 := (h5T _ (List.mem_of_getElem? hsi)).1
                    have hal := hOI.last (by omega)
                    have hnF := own_ne_blk hD6 kfI (by decide)
                    have hnZ := own_ne_blk hD6 kzI (by decide)
                    have hnG : (Value.slice D i dd).ownBlock = none ∨ (Value.slice D i dd).ownBlock ≠ some g := own_ne_own (ownsRow_base hD6 hbO) hrowI (by decide)
                    have x2 : wr.cell? ⟨bF, 1, none⟩ = some (.slice (some ⟨g, 0, none⟩) (p + 1) d) := kfI.cell 1
                    have hlg : g < wr.heap.size := cell_some_lt (w := wr) (p := ⟨g, i * 3, none⟩) (by rw [hn6]; rfl)
                    have hNE := own_ne_own hrowI (ownsRow_base hD6 hbO) (by decide)
                    have i0 : (0 : Int) ≤ (i : Int) := by omega
                    have i1 : (i : Int) < (p : Int) + 1 := by omega
                    have i2 : (i : Int) < (p : Int) := by omega
                    have p0 : (0 : Int) ≤ (p : Int) := by omega
                    have p1 : (p : Int) < (p : Int) + 1 := by omega
                    have hip : p * 3 + 1 ≠ i * 3 := by omega
                    go_wp2_with fail
                    refine wp_region_held_drew (S := (fun w' => w'.cell? ⟨bF, 1, none⟩ = some (.slice (some ⟨g, 0, none⟩) (p + 1) d) ∧ w'.cell? ⟨g, i * 3, none⟩ = some (.string si.name))) (by kernel_rfl) ⟨cell_dr x2, cell_dr hn6⟩ (fun hHeld => ?_)
                    refine wpAnyH_take (i := 0) (v := ?_) rfl (by kernel_rfl) (by kernel_rfl) (by kernel_rfl) (fun _ _ _ h => h) (Or.inl ⟨by kernel_rfl, ?_⟩) (by assumption) ?_
                    rotate_left 1
                    · intro w' hSw; (try dsimp only at hSw); go_simp; try with_reducible rfl
                    simp only [Act.put, List.getElem_toArray, List.getElem_cons_zero, List.setIfInBounds_toArray, List.set_cons_zero, List.set_cons_succ]
                    refine wpAnyH_take (i := 1) (v := ?_) rfl (by kernel_rfl) (by kernel_rfl) (by kernel_rfl) (fun _ _ _ h => h) (Or.inl ⟨by kernel_rfl, ?_⟩) (by assumption) ?_
                    rotate_left 1
                    · intro w' hSw; (try dsimp only at hSw); go_simp; try with_reducible rfl
                    simp only [Act.put, List.getElem_toArray, List.getElem_cons_zero, List.getElem_cons_succ, List.setIfInBounds_toArray, List.set_cons_zero, List.set_cons_succ]
                    refine wpAnyH_take (i := 2) (v := ?_) rfl (by kernel_rfl) (by kernel_rfl) (by kernel_rfl) (fun _ _ _ h => h) (Or.inl ⟨by kernel_rfl, ?_⟩) (by assumption) ?_
                    rotate_left 1
                    · intro w' hSw; (try dsimp only at hSw); go_simp; try with_reducible rfl
                    simp only [Act.put, List.getElem_toArray, List.getElem_cons_zero, List.getElem_cons_succ, List.setIfInBounds_toArray, List.set_cons_zero, List.set_cons_succ]
                    refine wpAnyH_take (i := 3) (v := ?_) rfl (by kernel_rfl) (by kernel_rfl) (by kernel_rfl) (fun _ _ _ h => h) (Or.inl ⟨by kernel_rfl, ?_⟩) (by assumption) ?_
                    rotate_left 1
                    · intro w' hSw; (try dsimp only at hSw); go_simp; try with_reducible rfl
                    simp only [Act.put, List.getElem_toArray, List.getElem_cons_zero, List.getElem_cons_succ, List.setIfInBounds_toArray, List.set_cons_zero, List.set_cons_succ]
                    refine wpAnyH_take (i := 4) (v := ?_) rfl (by kernel_rfl) (by kernel_rfl) (by kernel_rfl) (fun _ _ _ h => h) (Or.inl ⟨by kernel_rfl, ?_⟩) (by assumption) ?_
                    rotate_left 1
                    · intro w' hSw; (try dsimp only at hSw); go_simp; try with_reducible rfl
                    simp only [Act.put, List.getElem_toArray, List.getElem_cons_zero, List.getElem_cons_succ, List.setIfInBounds_toArray, List.set_cons_zero, List.set_cons_succ]
                    refine wpAnyH_take (i := 5) (v := ?_) rfl (by kernel_rfl) (by kernel_rfl) (by kernel_rfl) (fun _ _ _ h => h) (Or.inl ⟨by kernel_rfl, ?_⟩) (by assumption) ?_
                    rotate_left 1
                    · intro w' hSw; (try dsimp only at hSw); go_simp; try with_reducible rfl
                    simp only [Act.put, List.getElem_toArray, List.getElem_cons_zero, List.getElem_cons_succ, List.setIfInBounds_toArray, List.set_cons_zero, List.set_cons_succ]
                    refine wpAnyH_take (i := 6) (v := ?_) rfl (by kernel_rfl) (by kernel_rfl) (by kernel_rfl) (fun _ _ _ h => h) (Or.inl ⟨by kernel_rfl, ?_⟩) (by assumption) ?_
                    rotate_left 1
                    · intro w' hSw; (try dsimp only at hSw); go_simp; try with_reducible rfl
                    simp only [Act.put, List.getElem_toArray, List.getElem_cons_zero, List.getElem_cons_succ, List.setIfInBounds_toArray, List.set_cons_zero, List.set_cons_succ]
                    refine wpAnyH_take (i := 7) (v := ?_) rfl (by kernel_rfl) (by kernel_rfl) (by kernel_rfl) (fun _ _ _ h => h) (Or.inl ⟨by kernel_rfl, ?_⟩) (by assumption) ?_
                    rotate_left 1
                    · intro w' hSw; (try dsimp only at hSw); go_simp; try with_reducible rfl
                    simp only [Act.put, List.getElem_toArray, List.getElem_cons_zero, List.getElem_cons_succ, List.setIfInBounds_toArray, List.set_cons_zero, List.set_cons_succ]
                    refine wpAnyH_take (i := 9) (v := ?_) rfl (by kernel_rfl) (by kernel_rfl) (by kernel_rfl) (fun _ _ _ h => h) (Or.inl ⟨by kernel_rfl, ?_⟩) (by assumption) ?_
                    rotate_left 1
                    · intro w' hSw; (try dsimp only at hSw); go_simp; try with_reducible rfl
                    simp only [Act.put, List.getElem_toArray, List.getElem_cons_zero, List.getElem_cons_succ, List.setIfInBounds_toArray, List.set_cons_zero, List.set_cons_succ]
                    refine wpAnyH_take (i := 10) (v := ?_) rfl (by kernel_rfl) (by kernel_rfl) (by kernel_rfl) (fun _ _ _ h => h) (Or.inl ⟨by kernel_rfl, ?_⟩) (by assumption) ?_
                    rotate_left 1
                    · intro w' hSw; (try dsimp only at hSw); go_simp; try with_reducible rfl
                    simp only [Act.put, List.getElem_toArray, List.getElem_cons_zero, List.getElem_cons_succ, List.setIfInBounds_toArray, List.set_cons_zero, List.set_cons_succ]
                    refine wpAnyH_take (i := 11) (v := ?_) rfl (by kernel_rfl) (by kernel_rfl) (by kernel_rfl) (fun _ _ _ h => h) (Or.inl ⟨by kernel_rfl, ?_⟩) (by assumption) ?_
                    rotate_left 1
                    · intro w' hSw; (try dsimp only at hSw); go_simp; try with_reducible rfl
                    simp only [Act.put, List.getElem_toArray, List.getElem_cons_zero, List.getElem_cons_succ, List.setIfInBounds_toArray, List.set_cons_zero, List.set_cons_succ]
                    refine wpAnyH_take (i := 12) (v := ?_) rfl (by kernel_rfl) (by kernel_rfl) (by kernel_rfl) (fun _ _ _ h => h) (Or.inl ⟨by kernel_rfl, ?_⟩) (by assumption) ?_
                    rotate_left 1
                    · intro w' hSw; (try dsimp only at hSw); go_simp; try with_reducible rfl
                    simp only [Act.put, List.getElem_toArray, List.getElem_cons_zero, List.getElem_cons_succ, List.setIfInBounds_toArray, List.set_cons_zero, List.set_cons_succ]
                    refine wpAnyH_take (i := 13) (v := ?_) rfl (by kernel_rfl) (by kernel_rfl) (by kernel_rfl) (fun _ _ _ h => h) (Or.inl ⟨by kernel_rfl, ?_⟩) (by assumption) ?_
                    rotate_left 1
                    · intro w' hSw; (try dsimp only at hSw); go_simp; try with_reducible rfl
                    simp only [Act.put, List.getElem_toArray, List.getElem_cons_zero, List.getElem_cons_succ, List.setIfInBounds_toArray, List.set_cons_zero, List.set_cons_succ]
                    refine wpAnyH_take (i := 14) (v := ?_) rfl (by kernel_rfl) (by kernel_rfl) (by kernel_rfl) (fun _ _ _ h => h) (Or.inl ⟨by kernel_rfl, ?_⟩) (by assumption) ?_
                    rotate_left 1
                    · intro w' hSw; (try dsimp only at hSw); go_simp; try with_reducible rfl
                    simp only [Act.put, List.getElem_toArray, List.getElem_cons_zero, List.getElem_cons_succ, List.setIfInBounds_toArray, List.set_cons_zero, List.set_cons_succ]
                    refine wpAnyH_ready (rs := [8, 15]) (by kernel_rfl) (by simp) ?_
                    refine AllReadyH.cons rfl (fun K hK => ?_) (AllReadyH.cons rfl (fun K hK => ?_) AllReadyH.nil)
                    · go_simp
                      refine hK.out _ _ ⟨cell_dr x2, cell_dr hn6⟩ (fun hHeld => ?_)
                      clear hK K
                      try simp only [Act.put, List.getElem_toArray, List.getElem_cons_zero, List.getElem_cons_succ, List.setIfInBounds_toArray, List.set_cons_zero, List.set_cons_succ]
                      refine wpAnyH_ready (rs := [15]) (by kernel_rfl) (by simp) ?_
                      refine AllReadyH.cons rfl (fun K hK => ?_) AllReadyH.nil
                      go_simp
                      refine hK.out _ _ ⟨cell_dr (cell_al x2 _), cell_dr (cell_al hn6 _)⟩ (fun hHeld => ?_)
                      clear hK K
                      try simp only [Act.put, List.getElem_toArray, List.getElem_cons_zero, List.getElem_cons_succ, List.setIfInBounds_toArray, List.set_cons_zero, List.set_cons_succ]
                      refine wpAnyH_ready (rs := [16]) (by kernel_rfl) (by simp) ?_
                      refine AllReadyH.cons rfl (fun K hK => ?_) AllReadyH.nil
                      refine step_append_sl (enc := encS) (by rfl) _ _ 28 (by rfl) Wb 9 i1' (.string ByteArray.empty) 1 16 Try.underlying28 hi1 hy0 hy1 hy2 rfl (by decide) (.slice D i dd) i (ys.map Value.string) (by rfl) (own_dr' hD6) (some ⟨wr.heap.size, 0, none⟩) 1 1 [si.name] (by rfl) (fun _ => rfl) (sl_one_dr wr si.name) one_S (by unfold maxLen; omega) (by omega) (by simp; omega) ?_; intro v7 w7 ho7 hg7 hl7; obtain ⟨A7, c7, rfl⟩ := own_form ho7; rw [flat_encS, ← List.map_append] at ho7; have kf7 := app_dr kfI hg7 (fun e => hnF e.symm); have kz7 := app_dr kzI hg7 (fun e => hnZ e.symm); have hg7' := first_gr' hg7; have y2 : w7.cell? ⟨bF, 1, none⟩ = some (.slice (some ⟨g, 0, none⟩) (p + 1) d) := kf7.cell 1; have y3 : w7.cell? ⟨g, i * 3, none⟩ = some (.string si.name) := app_cell hn6 hg7 (fun e => hnG.elim (fun h => by rw [h] at e; cases e) (fun h => h e.symm)); have y4 : w7.cell? ⟨g, p * 3 + 1, none⟩ = some (.slice D i dd) := app_cell hal hg7 (fun e => hnG.elim (fun h => by rw [h] at e; cases e) (fun h => h e.symm)); have y5 : w7.frozen? ⟨g, p * 3 + 1, none⟩ = false := ((hrowI.alloc _).kept hg7' hNE).frozenAt _
                      refine hK.out _ _ ⟨y2, y3⟩ (fun hHeld => ?_)
                      clear hK K
                      try simp only [Act.put, List.getElem_toArray, List.getElem_cons_zero, List.getElem_cons_succ, List.setIfInBounds_toArray, List.set_cons_zero, List.set_cons_succ]
                      refine wpAnyH_take (i := 17) (v := ?_) rfl (by kernel_rfl) (by kernel_rfl) (by kernel_rfl) (fun _ _ _ h => h) (Or.inl ⟨by kernel_rfl, ?_⟩) (by assumption) ?_
                      rotate_left 1
                      · intro w' hSw; (try dsimp only at hSw); go_simp; try with_reducible rfl
                      simp only [Act.put, List.getElem_toArray, List.getElem_cons_zero, List.getElem_cons_succ, List.setIfInBounds_toArray, List.set_cons_zero, List.set_cons_succ]
                      refine wpAnyH_take (i := 18) (v := ?_) rfl (by kernel_rfl) (by kernel_rfl) (by kernel_rfl) (fun _ _ _ h => h) (Or.inl ⟨by kernel_rfl, ?_⟩) (by assumption) ?_
                      rotate_left 1
                      · intro w' hSw; (try dsimp only at hSw); go_simp; try with_reducible rfl
                      simp only [Act.put, List.getElem_toArray, List.getElem_cons_zero, List.getElem_cons_succ, List.setIfInBounds_toArray, List.set_cons_zero, List.set_cons_succ]
                      refine wpAnyH_ready (rs := [19]) (by kernel_rfl) (by simp) ?_
                      refine AllReadyH.cons rfl (fun K hK => ?_) AllReadyH.nil
                      go_simp
                      refine hK.out _ _ ⟨cell_st y2 ngF _, cell_so y3 hip _⟩ (fun hHeld => ?_)
                      clear hK K
                      try simp only [Act.put, List.getElem_toArray, List.getElem_cons_zero, List.getElem_cons_succ, List.setIfInBounds_toArray, List.set_cons_zero, List.set_cons_succ]
                      refine wpAnyH_done (by kernel_rfl) ?_ _
                      go_wp2_with fail
                      go_roundw
                      case measure => simp [intOf]; omega
                      go_light
                      have hz7 := hg7.size
                      simp at hz7
                      refine ⟨i + 1, A7, c7, ys ++ [si.name], by omega, by go_num, hOI.step (by omega) hg7' ho7, Lib.hid (fun x hx => ?_), kf7.far ngF _, kz7.far ngZ _, by simp [World.setCell]; omega, ?_⟩
                      · rcases List.mem_append.1 hx with hx | hx
                        · exact HY.out x hx
                        · simp at hx; subst hx; exact hsi5
                      · exact bel_set (Below.grown (hbI.alloc hszI _) hg7' (by simp; omega) (fun q hq => by have := (hD6.lt q hq).1; omega)) (by simp; omega) _
                    · go_simp
                      refine hK.out _ _ ⟨cell_dr (cell_al x2 _), cell_dr (cell_al hn6 _)⟩ (fun hHeld => ?_)
                      clear hK K
                      try simp only [Act.put, List.getElem_toArray, List.getElem_cons_zero, List.getElem_cons_succ, List.setIfInBounds_toArray, List.set_cons_zero, List.set_cons_succ]
                      refine wpAnyH_ready (rs := [8]) (by kernel_rfl) (by simp) ?_
                      refine AllReadyH.cons rfl (fun K hK => ?_) AllReadyH.nil
                      go_simp
                      refine hK.out _ _ ⟨cell_dr (cell_al x2 _), cell_dr (cell_al hn6 _)⟩ (fun hHeld => ?_)
                      clear hK K
                      try simp only [Act.put, List.getElem_toArray, List.getElem_cons_zero, List.getElem_cons_succ, List.setIfInBounds_toArray, List.set_cons_zero, List.set_cons_succ]
                      refine wpAnyH_ready (rs := [16]) (by kernel_rfl) (by simp) ?_
                      refine AllReadyH.cons rfl (fun K hK => ?_) AllReadyH.nil
                      refine step_append_sl (enc := encS) (by rfl) _ _ 28 (by rfl) Wb 9 i1' (.string ByteArray.empty) 1 16 Try.underlying28 hi1 hy0 hy1 hy2 rfl (by decide) (.slice D i dd) i (ys.map Value.string) (by rfl) (own_dr' hD6) (some ⟨wr.heap.size, 0, none⟩) 1 1 [si.name] (by rfl) (fun _ => rfl) (sl_one_dr wr si.name) one_S (by unfold maxLen; omega) (by omega) (by simp; omega) ?_; intro v7 w7 ho7 hg7 hl7; obtain ⟨A7, c7, rfl⟩ := own_form ho7; rw [flat_encS, ← List.map_append] at ho7; have kf7 := app_dr kfI hg7 (fun e => hnF e.symm); have kz7 := app_dr kzI hg7 (fun e => hnZ e.symm); have hg7' := first_gr' hg7; have y2 : w7.cell? ⟨bF, 1, none⟩ = some (.slice (some ⟨g, 0, none⟩) (p + 1) d) := kf7.cell 1; have y3 : w7.cell? ⟨g, i * 3, none⟩ = some (.string si.name) := app_cell hn6 hg7 (fun e => hnG.elim (fun h => by rw [h] at e; cases e) (fun h => h e.symm)); have y4 : w7.cell? ⟨g, p * 3 + 1, none⟩ = some (.slice D i dd) := app_cell hal hg7 (fun e => hnG.elim (fun h => by rw [h] at e; cases e) (fun h => h e.symm)); have y5 : w7.frozen? ⟨g, p * 3 + 1, none⟩ = false := ((hrowI.alloc _).kept hg7' hNE).frozenAt _
                      refine hK.out _ _ ⟨y2, y3⟩ (fun hHeld => ?_)
                      clear hK K
                      try simp only [Act.put, List.getElem_toArray, List.getElem_cons_zero, List.getElem_cons_succ, List.setIfInBounds_toArray, List.set_cons_zero, List.set_cons_succ]
                      refine wpAnyH_take (i := 17) (v := ?_) rfl (by kernel_rfl) (by kernel_rfl) (by kernel_rfl) (fun _ _ _ h => h) (Or.inl ⟨by kernel_rfl, ?_⟩) (by assumption) ?_
                      rotate_left 1
                      · intro w' hSw; (try dsimp only at hSw); go_simp; try with_reducible rfl
                      simp only [Act.put, List.getElem_toArray, List.getElem_cons_zero, List.getElem_cons_succ, List.setIfInBounds_toArray, List.set_cons_zero, List.set_cons_succ]
                      refine wpAnyH_take (i := 18) (v := ?_) rfl (by kernel_rfl) (by kernel_rfl) (by kernel_rfl) (fun _ _ _ h => h) (Or.inl ⟨by kernel_rfl, ?_⟩) (by assumption) ?_
                      rotate_left 1
                      · intro w' hSw; (try dsimp only at hSw); go_simp; try with_reducible rfl
                      simp only [Act.put, List.getElem_toArray, List.getElem_cons_zero, List.getElem_cons_succ, List.setIfInBounds_toArray, List.set_cons_zero, List.set_cons_succ]
                      refine wpAnyH_ready (rs := [19]) (by kernel_rfl) (by simp) ?_
                      refine AllReadyH.cons rfl (fun K hK => ?_) AllReadyH.nil
                      go_simp
                      refine hK.out _ _ ⟨cell_st y2 ngF _, cell_so y3 hip _⟩ (fun hHeld => ?_)
                      clear hK K
                      try simp only [Act.put, List.getElem_toArray, List.getElem_cons_zero, List.getElem_cons_succ, List.setIfInBounds_toArray, List.set_cons_zero, List.set_cons_succ]
                      refine wpAnyH_done (by kernel_rfl) ?_ _
                      go_wp2_with fail
                      go_roundw
                      case measure => simp [intOf]; omega
                      go_light
                      have hz7 := hg7.size
                      simp at hz7
                      refine ⟨i + 1, A7, c7, ys ++ [si.name], by omega, by go_num, hOI.step (by omega) hg7' ho7, Lib.hid (fun x hx => ?_), kf7.far ngF _, kz7.far ngZ _, by simp [World.setCell]; omega, ?_⟩
                      · rcases List.mem_append.1 hx with hx | hx
                        · exact HY.out x hx
                        · simp at hx; subst hx; exact hsi5
                      · exact bel_set (Below.grown (hbI.alloc hszI _) hg7' (by simp; omega) (fun q hq => by have := (hD6.lt q hq).1; omega)) (by simp; omega) _
                  · have hip : i = p := by omega
                    subst hip
                    have hoE0 := hOI.toQ hsp
                    have hlen := hD6.1
                    simp at hlen
                    obtain ⟨kfE, hoE, h5E, kzE, hbE⟩ := And.intro kfI (And.intro hoE0 (And.intro (sm5_set (p := ⟨sp.name, ys, sp.undo⟩) h5T h5p.1 (by show ys.length ≤ 4; omega) HY.out) (And.intro kzI hbI)))
                    have cfE := kfE.cell
                    have czE := kzE.cell
                    have fzE := kzE.frozen
                    go_wp2_with fail
                    have KE := (kzE.set_ 0 (.int .i64 v)).set_ 1 (.slice (some ⟨g, 0, none⟩) (i + 1) d)
                    have cKE := KE.cell
                    refine bodyPost_ret (v := .agg #[.int .i64 v, .slice (some ⟨g, 0, none⟩) (i + 1) d]) (by simp [results, Try.results15, go_sem, cKE]) rfl ?_
                    go_light
                    exact ⟨v, some ⟨g, 0, none⟩, i + 1, d, _, rfl, ((hoE.blk kzE (by decide) (by decide) (gr_cell _ _ _ _)).blk (kzE.set_ 0 _) (by decide) (by decide) (gr_cell _ _ _ _)).read, h5E, hm1, hm6, bel_set (bel_set hbE (by simp) _) (by simp) _⟩
              · have dq : decide ((p : Int) ≤ 4) = false := decide_eq_false (by omega)
                obtain ⟨kfE, hoE, h5E, kzE, hbE⟩ := And.intro kfT (And.intro hoT (And.intro h5T (And.intro kzT hbT)))
                have cfE := kfE.cell
                have czE := kzE.cell
                have fzE := kzE.frozen
                clear cfT
                go_wp2_with fail
                have KE := (kzE.set_ 0 (.int .i64 v)).set_ 1 (.slice (some ⟨g, 0, none⟩) (p + 1) d)
                have cKE := KE.cell
                refine bodyPost_ret (v := .agg #[.int .i64 v, .slice (some ⟨g, 0, none⟩) (p + 1) d]) (by simp [results, Try.results15, go_sem, cKE]) rfl ?_
                go_light
                exact ⟨v, some ⟨g, 0, none⟩, p + 1, d, _, rfl, ((hoE.blk kzE (by decide) (by decide) (gr_cell _ _ _ _)).blk (kzE.set_ 0 _) (by decide) (by decide) (gr_cell _ _ _ _)).read, h5E, hm1, hm6, bel_set (bel_set hbE (by simp) _) (by simp) _⟩
          · have e14 : (v14 == 0) = false := by simpa using h14
            clear h14
            obtain ⟨kfE, hoE, h5E, kzE, hbE⟩ := And.intro kfT (And.intro hoT (And.intro h5T (And.intro kzT hbT)))
            have cfE := kfE.cell
            have czE := kzE.cell
            have fzE := kzE.frozen
            clear cfT
            go_wp2_with fail
            have KE := (kzE.set_ 0 (.int .i64 v)).set_ 1 (.slice (some ⟨g, 0, none⟩) (p + 1) d)
            have cKE := KE.cell
            refine bodyPost_ret (v := .agg #[.int .i64 v, .slice (some ⟨g, 0, none⟩) (p + 1) d]) (by simp [results, Try.results15, go_sem, cKE]) rfl ?_
            go_light
            exact ⟨v, some ⟨g, 0, none⟩, p + 1, d, _, rfl, ((hoE.blk kzE (by decide) (by decide) (gr_cell _ _ _ _)).blk (kzE.set_ 0 _) (by decide) (by decide) (gr_cell _ _ _ _)).read, h5E, hm1, hm6, bel_set (bel_set hbE (by simp) _) (by simp) _⟩
    · have e8 : (v8 == 0) = false := by simpa using h80
      clear h80
      obtain ⟨kfE, hoE, h5E, kzE, hbE⟩ := And.intro kf8 (And.intro ho8 (And.intro h5A (And.intro kz8 hb8)))
      have cfE := kfE.cell
      have czE := kzE.cell
      have fzE := kzE.frozen
      clear cf8
      go_wp2_with fail
      have KE := (kzE.set_ 0 (.int .i64 v)).set_ 1 (.slice (some ⟨g, 0, none⟩) (p + 1) d)
      have cKE := KE.cell
      refine bodyPost_ret (v := .agg #[.int .i64 v, .slice (some ⟨g, 0, none⟩) (p + 1) d]) (by simp [results, Try.results15, go_sem, cKE]) rfl ?_
      go_light
      exact ⟨v, some ⟨g, 0, none⟩, p + 1, d, _, rfl, ((hoE.blk kzE (by decide) (by decide) (gr_cell _ _ _ _)).blk (kzE.set_ 0 _) (by decide) (by decide) (gr_cell _ _ _ _)).read, h5E, hm1, hm6, bel_set (bel_set hbE (by simp) _) (by simp) _⟩

end Go.Proofs.Ytdchfiiaollheaa
