/- A text out of numbers. -/
import Derived.Test.YtofgjlfgpnmmdaaGt
import Derived.Laws.BytesArg
namespace Go.Proofs.Ytofgjlfgpnmmdaa.G
open Go.RowKit
theorem bl_strOf (l : List Int) (h : ∀ c ∈ l, 0 ≤ c ∧ c ≤ 255) : bl (strOfNums l) = l := by
  unfold bl strOfNums
  simp only [List.map_map]
  conv => rhs; rw [← List.map_id l]
  apply List.map_congr_left
  intro c hc
  have := h c hc
  simp only [Function.comp, id, UInt8.toNat_ofNat']
  omega
theorem size_strOf (l : List Int) : (strOfNums l).size = l.length := by
  show (List.map _ l).toArray.size = _
  rw [List.size_toArray, List.length_map]
theorem bl_range (s : ByteArray) : ∀ c ∈ bl s, 0 ≤ c ∧ c ≤ 255 := by
  intro c hc
  unfold bl at hc
  obtain ⟨b, _, rfl⟩ := List.mem_map.1 hc
  have := b.toNat_lt
  omega
theorem bl_inj {s t : ByteArray} (h : bl s = bl t) : s = t := by
  have e : ∀ x : ByteArray, strOfNums (bl x) = x := by
    intro x
    have e2 : ((bl x).map fun n => UInt8.ofNat n.toNat) = x.data.toList := by
      unfold bl
      rw [List.map_map]
      conv => rhs; rw [← List.map_id x.data.toList]
      apply List.map_congr_left
      intro b _
      simp [Function.comp]
    unfold strOfNums
    rw [e2]
  rw [← e s, ← e t, h]
end Go.Proofs.Ytofgjlfgpnmmdaa.G
