/- Safe flows, where all can be undone: plain laws. -/
import Derived.Test.YtdchfiiaollheaaBehPlain
namespace Go.Proofs.Ytdchfiiaollheaa

/-- How many steps can not be undone. -/
def noUndo (l : List Stp) : Nat := (l.filter (fun p => !p.undo)).length
theorem noUndo_in {l : List Stp} {k : Nat} {nm : ByteArray} {af : List ByteArray} (h : l[k]? = some ⟨nm, af, false⟩) : noUndo (l.take (k + 1)) = noUndo (l.take k) + 1 := by
  unfold noUndo; rw [take_snocG h, List.filter_append]; simp
theorem noUndo_out {l : List Stp} {k : Nat} {nm : ByteArray} {af : List ByteArray} (h : l[k]? = some ⟨nm, af, true⟩) : noUndo (l.take (k + 1)) = noUndo (l.take k) := by
  unfold noUndo; rw [take_snocG h, List.filter_append]; simp
theorem noUndo_le (l : List Stp) : noUndo l ≤ l.length := List.length_filter_le _ _
theorem noUndo_zero {v : Int} {l : List Stp} (hf : flowB v l = true) (h : noUndo l = 0) : safeB v l = true := by
  refine safeB_iff.2 ⟨hf, fun p hp hu => ?_⟩
  have := List.eq_nil_of_length_eq_zero h
  have hm : p ∈ l.filter (fun p => !p.undo) := List.mem_filter.2 ⟨hp, by simp [hu]⟩
  rw [this] at hm
  cases hm
theorem noUndo_one {v : Int} {l : List Stp} (hs : safeB v l = true) : noUndo l ≤ 1 := by
  obtain ⟨hf, H⟩ := safeB_iff.1 hs
  have hN := flow_nodup hf
  have ho := ord_of hf
  refine Classical.byContradiction fun hn => ?_
  unfold noUndo at hn
  have h0 : 0 < (l.filter (fun p => !p.undo)).length := by omega
  have h1 : 1 < (l.filter (fun p => !p.undo)).length := by omega
  have m0 := List.mem_filter.1 (List.getElem_mem h0)
  have m1 := List.mem_filter.1 (List.getElem_mem h1)
  have hne : (l.filter (fun p => !p.undo))[0].name ≠ (l.filter (fun p => !p.undo))[1].name := by
    have hs : ((l.filter (fun p => !p.undo)).map Stp.name).Nodup := List.Nodup.sublist (List.Sublist.map _ List.filter_sublist) hN
    rw [List.nodup_iff_pairwise_ne, List.pairwise_iff_getElem] at hs
    have := hs 0 1 (by simpa using h0) (by simpa using h1) (by omega)
    simpa using this
  have a := H _ m0.1 (by simpa using m0.2) _ m1.1 (Ne.symm hne)
  have b := H _ m1.1 (by simpa using m1.2) _ m0.1 hne
  exact ho.asymm hN a b

end Go.Proofs.Ytdchfiiaollheaa
