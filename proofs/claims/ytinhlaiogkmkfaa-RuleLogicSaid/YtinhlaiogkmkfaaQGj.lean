/- Match: the walk. -/
import Derived.Test.YtinhlaiogkmkfaaQGi
namespace Go.Proofs.Ytinhlaiogkmkfaa.G
open Go.RowKit
attribute [local simp, local go_sem] alloc_drewN setCell_drewN
set_option linter.unusedVariables false
set_option linter.unusedSimpArgs false
set_option maxRecDepth 100000
/-- What is known of a step's place. -/
theorem step_cells {w : World} {base : Nat} {A : Option Addr} {c : Nat} {l : List Stq} (h : IsSteps w base (.slice A l.length c) l) : ∀ i (hi : i < l.length), ∃ b, A = some ⟨b, 0, none⟩ ∧ base ≤ b ∧ b < w.heap.size ∧
    w.cell? ⟨b, i * 2, none⟩ = some (.bool (manyOf (l.map Stq.s) i)) ∧ w.cell? ⟨b, i * 2 + 1, none⟩ = some (.func (.func l[i].fn) #[] l[i].cp) := by
  intro i hi
  obtain ⟨ho, _⟩ := h
  rcases ho with ⟨hl, ⟨hv, h0⟩ | ⟨g, cap, cur, hv, hg, hh, hc, hm, hcs, ht⟩⟩
  · omega
  · injection hv with hA _ _
    have hcell : ∀ j u, (stqCells l)[j]? = some u → w.cell? ⟨g, j, none⟩ = some u := by
      intro j u hj
      rw [cell_of_row w g j cur _ _ hh, ← Array.getElem?_toList]
      rw [← ht] at hj
      rw [List.getElem?_take] at hj
      split at hj
      · exact hj
      · simp at hj
    have hq := stqCells_at l i l[i] (List.getElem?_eq_getElem hi)
    refine ⟨g, hA, hg, lt_of_block hh, ?_, hcell _ _ hq.2⟩
    rw [hcell _ _ hq.1]
    simp [manyOf, List.getElem?_map, List.getElem?_eq_getElem hi]
theorem matchRes_of {p s : ByteArray} {e : Int × Int} (h : checkRes p = e) (hne : e.2 ≠ 0) : matchRes p s = (false, e.2) := by
  unfold matchRes
  rw [h, if_neg hne]
def OuterAt (w1 : World) (L : List Stp) (s : ByteArray) (n : Nat) (gk : Nat) (v9 v10 v11 : Value) (wr : World) : Prop :=
  ∃ (k g1 g2 : Nat) (junk : Nat → Bool), gk = s.size - k ∧ k ≤ s.size ∧ v9 = .slice (some ⟨g1, 0, none⟩) (n + 1) (n + 1) ∧ v10 = .slice (some ⟨g2, 0, none⟩) (n + 1) (n + 1) ∧ v11 = .int .i64 k ∧
    g1 ≠ g2 ∧ w1.heap.size ≤ g1 ∧ w1.heap.size ≤ g2 ∧ wr.heap[g1]? = some (.cells (rowB (n + 1) (marks L s k)) 4 (0, 0)) ∧ wr.heap[g2]? = some (.cells (rowB (n + 1) junk) 4 (0, 0)) ∧ But No w1 wr
def InnerAt (w1 : World) (L : List Stp) (S : Nat → Bool) (c : Int) (n g1 g2 : Nat) (gk : Nat) (v45 : Value) (wr : World) : Prop :=
  ∃ k : Nat, gk = n - k ∧ k ≤ n ∧ v45 = .int .i64 k ∧ wr.heap[g1]? = some (.cells (rowB (n + 1) S) 4 (0, 0)) ∧ wr.heap[g2]? = some (.cells (rowB (n + 1) (nextTo L S c k)) 4 (0, 0)) ∧ But No w1 wr
set_option maxHeartbeats 8000000 in
theorem match0 (p s : ByteArray) (w : World) (hp : p.size ≤ 9223372036854775807) (hs : s.size ≤ 9223372036854775807) :
    Calls Try.prog 99 #[.string p, .string s] w fun e w' => e = .returned (.tuple #[.bool (matchRes p s).1, .int .i64 (matchRes p s).2]) ∧ But No w w' := by
  have hs2 : s.size ≤ 9223372036854775807 := by omega
  go_enter Try.func99, Try.ntmps99
  go_wp2_with fail
  refine (read0 p w hp).mono ?_
  rintro e w1 ⟨hb, h⟩
  rcases h with ⟨h1, rfl⟩ | ⟨h1, h2, rfl⟩ | ⟨h1, h2, v, l, rfl, hI, hl, hlen⟩
  · have E := Lib.hid (show matchRes p s = (false, 61) from matchRes_of (e := (0, 61)) (if_pos h1) (by decide))
    go_wp2_with fail
    go_ret2
    exact ⟨by rw [E.out]; rfl, hb⟩
  · have E := Lib.hid (show matchRes p s = (false, 60) from matchRes_of (e := ((gSteps p).1, 60)) ((if_neg (by omega)).trans (if_pos h2)) (by simp))
    go_wp2_with fail
    go_ret2
    exact ⟨by rw [E.out]; rfl, hb⟩
  · have E := Lib.hid (show matchRes p s = (marks (gSteps p).2 s s.size (gSteps p).2.length, 0) from if_pos (by rw [show checkRes p = (0, 0) from (if_neg (by omega)).trans (if_neg (by omega))]))
    have HL := Lib.hid hl
    have HLn := Lib.hid (show (gSteps p).2.length = l.length from by rw [← hl, List.length_map])
    clear hl h2
    obtain ⟨A0, c0, rfl⟩ := own_slice hI.1
    have hcase : (A0 = none ∧ l.length = 0) ∨ ∃ b, A0 = some ⟨b, 0, none⟩ := by
      rcases hI.1.2 with ⟨hv, h0⟩ | ⟨b, cap, cur, hv, _⟩
      · injection hv with hv _ _
        exact .inl ⟨hv, h0⟩
      · injection hv with hv _ _
        exact .inr ⟨b, hv⟩
    have hst := step_cells hI
    have ht : ∀ (w2 : World) (g : Nat) (f : Nat → Bool), But No w1 w2 → w1.heap.size ≤ g → w2.heap[g]? = some (.cells (rowB (l.length + 1) f) 4 (0, 0)) →
        Calls Try.prog 112 #[.slice A0 l.length c0, .slice (some ⟨g, 0, none⟩) (l.length + 1) (l.length + 1)] w2 fun e w' => e = .returned (.tuple #[]) ∧ But (One g) w2 w' ∧ w'.heap[g]? = some (.cells (rowB (l.length + 1) (thruTo (manyOf (l.map Stq.s)) l.length f)) 4 (0, 0)) := by
      intro w2 g f hb2 hg hc
      refine through_any l.length c0 A0 (manyOf (l.map Stq.s)) (fun i => if h : i < l.length then l[i].fn else 0) (fun i => if h : i < l.length then l[i].cp else #[]) g f w2 ?_ (by omega) hc
      intro i hi
      obtain ⟨b, q1, q2, q3, q4, q5⟩ := hst i hi
      exact ⟨b, q1, by omega, hb2.cell_some q4 (fun h => h), by simp only [dif_pos hi]; exact hb2.cell_some q5 (fun h => h)⟩
    have HT := Lib.hid ht
    clear ht
    rcases hcase with ⟨rfl, h0⟩ | ⟨b, rfl⟩
    · have H0 := Lib.hid h0
      clear h0 hst
      have hn : l.length ≤ 257 := by omega
      have hmk := run_makeB l.length (by omega)
      go_upto_region 4 with (fail)
      go_cut [9, 10] (fun v9 v10 wc => ∃ g1 g2, v9 = .slice (some ⟨g1, 0, none⟩) (l.length + 1) (l.length + 1) ∧ v10 = .slice (some ⟨g2, 0, none⟩) (l.length + 1) (l.length + 1) ∧ g1 ≠ g2 ∧ w1.heap.size ≤ g1 ∧ w1.heap.size ≤ g2 ∧
        wc.heap[g1]? = some (.cells (rowB (l.length + 1) none_) 4 (0, 0)) ∧ wc.heap[g2]? = some (.cells (rowB (l.length + 1) none_) 4 (0, 0)) ∧ But No w1 wc)
      case first =>
        go_region
        all_goals
          go_wp2
          go_meet
          case rel =>
            refine ⟨_, _, rfl, rfl, by omega, by omega, by omega, ?_, ?_, by repeat (first | exact But.refl _ _ | apply But.drewN | apply But.drew | apply But.alloc)⟩
            · first | exact heap_alloc2_old _ _ _ | exact heap_alloc2_new _ _ _
            · first | exact heap_alloc2_old _ _ _ | exact heap_alloc2_new _ _ _
      case rest =>
        obtain ⟨g1, g2, rfl, rfl, hne, hg1, hg2, hc1, hc2, hb1⟩ := hcut
        obtain ⟨wo, rfl⟩ : ∃ wo : World, wo = wc := ⟨_, rfl⟩
        have k0 := blkcell hc1 0 (by simp [rowB_size])
        have kf := blkfree hc1 0
        clear hmk
        go_wp2_with fail
        have hs1 := blkset hc1 0 (.bool true)
        rw [rowB_set] at hs1
        refine (HT.out (wo.setCell ⟨g1, 0, none⟩ (.bool true)) g1 _ (hb1.setCell (.inr hg1) _) hg1 hs1).mono ?_
        rintro e w2 ⟨rfl, hb2, hc1'⟩
        have hc2' := (hb2.block g2 (by simpa [World.setCell] using lt_of_block hc2) (fun e => hne e.symm)).trans (blkfar (p := ⟨g1, 0, none⟩) hc2 hne.symm (.bool true))
        have hb2' : But No w1 w2 := (hb1.setCell (p := ⟨g1, 0, none⟩) (.inr hg1) (.bool true)).trans_ hb2 (fun b hb e => by unfold One at e; omega)
        have hstart : (fun j => if j = 0 then true else none_ j) = (fun j => j == 0) := by
          funext j
          unfold none_
          cases j <;> simp
        rw [hstart] at hc1'
        clear hb2 hc1 hc2 hb1 k0 kf hs1 hstart
        go_wp2_with fail
        go_loopg [9, 10, 11] s.size (fun k v9 v10 v11 wr => OuterAt w1 (l.map Stq.s) s l.length k v9 v10 v11 wr)
        case atStart =>
          refine ⟨0, g1, g2, none_, rfl, Nat.zero_le _, rfl, rfl, rfl, hne, hg1, hg2, ?_, hc2', hb2'⟩
          rw [hc1']
          simp only [marks, start, List.length_map]
        case round =>
          clear hc1' hc2' hb2' hne hg1 hg2
          obtain ⟨k, g1, g2, junk, hgk, hk, rfl, rfl, rfl, hne, hg1, hg2, hc1, hc2, hb1⟩ := hrel
          have HGK := Lib.hid hgk
          clear hgk
          obtain ⟨wx, rfl⟩ : ∃ wx : World, wx = wr := ⟨_, rfl⟩
          by_cases hks : k < s.size
          · have hbt := bt_at s k hks
            have hcl := run_clearB wx g2 l.length (l.length + 1) junk hc2
            have hc1c : (wx.setRow g2 (rowB (l.length + 1) none_)).heap[g1]? = some (.cells (rowB (l.length + 1) (marks (l.map Stq.s) s k)) 4 (0, 0)) := (setRow_other _ _ _ _ hne).trans hc1
            have hc2c : (wx.setRow g2 (rowB (l.length + 1) none_)).heap[g2]? = some (.cells (rowB (l.length + 1) none_) 4 (0, 0)) := setRow_heap _ _ _ _ _ _ hc2
            have hb1c : But No w1 (wx.setRow g2 (rowB (l.length + 1) none_)) := hb1.setRow (.inr hg2) _
            go_wp2_with fail
            clear hcl
            generalize hS : marks (l.map Stq.s) s k = S at *
            have HS := Lib.hid hS
            clear hS
            go_loopg [45] l.length (fun kk v45 wr => InnerAt w1 (l.map Stq.s) S (bt s k) l.length g1 g2 kk v45 wr)
            case atStart => exact ⟨0, rfl, Nat.zero_le _, rfl, hc1c, hc2c, hb1c⟩
            case round =>
              clear hc1c hc2c hb1c hc1 hc2 hb1
              obtain ⟨j, hgj, hj, rfl, hc1, hc2, hb1⟩ := hrel
              have HGJ := Lib.hid hgj
              clear hgj
              by_cases hjl : j < l.length
              · exact absurd hjl (by rw [H0.out]; exact Nat.not_lt_zero _)
              · obtain rfl : j = l.length := by omega
                go_wp2_with fail
                refine (HT.out wr g2 _ hb1 hg2 hc2).mono ?_
                rintro e w3 ⟨rfl, hb3, hc3⟩
                have hc1' := (hb3.block g1 (lt_of_block hc1) (fun e => hne e)).trans hc1
                have hb3' : But No w1 w3 := hb1.trans_ hb3 (fun b hb e => by unfold One at e; omega)
                clear hc1 hc2 hb1 hb3
                go_wp2_with fail
                go_roundg (s.size - (k + 1))
                case measure => rw [HGK.out]; omega
                case rel =>
                  refine ⟨k + 1, g2, g1, S, rfl, by omega, rfl, rfl, by go_num, hne.symm, hg2, hg1, ?_, hc1', hb3'⟩
                  rw [hc3]
                  simp only [marks, stepOn, List.length_map, HS.out]
          · obtain rfl : k = s.size := by omega
            have hcn := blkcell hc1 l.length (by rw [rowB_size]; omega)
            rw [rowB_get] at hcn
            go_wp2_with fail
            go_ret2
            refine ⟨?_, hb.trans hb1⟩
            rw [E.out, ← HL.out, List.length_map]
            rfl
    · have hst0 : ∀ w2, But No w1 w2 → ∀ i (hi : i < l.length), b < w1.heap.size ∧ w2.cell? ⟨b, i * 2, none⟩ = some (.bool (manyOf (l.map Stq.s) i)) ∧ w2.cell? ⟨b, i * 2 + 1, none⟩ = some (.func (.func l[i].fn) #[] l[i].cp) := by
        intro w2 hb2 i hi
        obtain ⟨b', q1, q2, q3, q4, q5⟩ := hst i hi
        injection q1 with q1
        injection q1 with q1
        subst q1
        exact ⟨q3, hb2.cell_some q4 (fun h => h), hb2.cell_some q5 (fun h => h)⟩
      have HST := Lib.hid hst0
      clear hst hst0
      have hn : l.length ≤ 257 := by omega
      have hmk := run_makeB l.length (by omega)
      go_upto_region 4 with (fail)
      go_cut [9, 10] (fun v9 v10 wc => ∃ g1 g2, v9 = .slice (some ⟨g1, 0, none⟩) (l.length + 1) (l.length + 1) ∧ v10 = .slice (some ⟨g2, 0, none⟩) (l.length + 1) (l.length + 1) ∧ g1 ≠ g2 ∧ w1.heap.size ≤ g1 ∧ w1.heap.size ≤ g2 ∧
        wc.heap[g1]? = some (.cells (rowB (l.length + 1) none_) 4 (0, 0)) ∧ wc.heap[g2]? = some (.cells (rowB (l.length + 1) none_) 4 (0, 0)) ∧ But No w1 wc)
      case first =>
        go_region
        all_goals
          go_wp2
          go_meet
          case rel =>
            refine ⟨_, _, rfl, rfl, by omega, by omega, by omega, ?_, ?_, by repeat (first | exact But.refl _ _ | apply But.drewN | apply But.drew | apply But.alloc)⟩
            · first | exact heap_alloc2_old _ _ _ | exact heap_alloc2_new _ _ _
            · first | exact heap_alloc2_old _ _ _ | exact heap_alloc2_new _ _ _
      case rest =>
        obtain ⟨g1, g2, rfl, rfl, hne, hg1, hg2, hc1, hc2, hb1⟩ := hcut
        obtain ⟨wo, rfl⟩ : ∃ wo : World, wo = wc := ⟨_, rfl⟩
        have k0 := blkcell hc1 0 (by simp [rowB_size])
        have kf := blkfree hc1 0
        clear hmk
        go_wp2_with fail
        have hs1 := blkset hc1 0 (.bool true)
        rw [rowB_set] at hs1
        refine (HT.out (wo.setCell ⟨g1, 0, none⟩ (.bool true)) g1 _ (hb1.setCell (.inr hg1) _) hg1 hs1).mono ?_
        rintro e w2 ⟨rfl, hb2, hc1'⟩
        have hc2' := (hb2.block g2 (by simpa [World.setCell] using lt_of_block hc2) (fun e => hne e.symm)).trans (blkfar (p := ⟨g1, 0, none⟩) hc2 hne.symm (.bool true))
        have hb2' : But No w1 w2 := (hb1.setCell (p := ⟨g1, 0, none⟩) (.inr hg1) (.bool true)).trans_ hb2 (fun b hb e => by unfold One at e; omega)
        have hstart : (fun j => if j = 0 then true else none_ j) = (fun j => j == 0) := by
          funext j
          unfold none_
          cases j <;> simp
        rw [hstart] at hc1'
        clear hb2 hc1 hc2 hb1 k0 kf hs1 hstart
        go_wp2_with fail
        go_loopg [9, 10, 11] s.size (fun k v9 v10 v11 wr => OuterAt w1 (l.map Stq.s) s l.length k v9 v10 v11 wr)
        case atStart =>
          refine ⟨0, g1, g2, none_, rfl, Nat.zero_le _, rfl, rfl, rfl, hne, hg1, hg2, ?_, hc2', hb2'⟩
          rw [hc1']
          simp only [marks, start, List.length_map]
        case round =>
          clear hc1' hc2' hb2' hne hg1 hg2
          obtain ⟨k, g1, g2, junk, hgk, hk, rfl, rfl, rfl, hne, hg1, hg2, hc1, hc2, hb1⟩ := hrel
          have HGK := Lib.hid hgk
          clear hgk
          obtain ⟨wx, rfl⟩ : ∃ wx : World, wx = wr := ⟨_, rfl⟩
          by_cases hks : k < s.size
          · have hbt := bt_at s k hks
            have hcl := run_clearB wx g2 l.length (l.length + 1) junk hc2
            have hc1c : (wx.setRow g2 (rowB (l.length + 1) none_)).heap[g1]? = some (.cells (rowB (l.length + 1) (marks (l.map Stq.s) s k)) 4 (0, 0)) := (setRow_other _ _ _ _ hne).trans hc1
            have hc2c : (wx.setRow g2 (rowB (l.length + 1) none_)).heap[g2]? = some (.cells (rowB (l.length + 1) none_) 4 (0, 0)) := setRow_heap _ _ _ _ _ _ hc2
            have hb1c : But No w1 (wx.setRow g2 (rowB (l.length + 1) none_)) := hb1.setRow (.inr hg2) _
            go_wp2_with fail
            clear hcl
            generalize hS : marks (l.map Stq.s) s k = S at *
            have HS := Lib.hid hS
            clear hS
            go_loopg [45] l.length (fun kk v45 wr => InnerAt w1 (l.map Stq.s) S (bt s k) l.length g1 g2 kk v45 wr)
            case atStart => exact ⟨0, rfl, Nat.zero_le _, rfl, hc1c, hc2c, hb1c⟩
            case round =>
              clear hc1c hc2c hb1c hc1 hc2 hb1
              obtain ⟨j, hgj, hj, rfl, hc1, hc2, hb1⟩ := hrel
              have HGJ := Lib.hid hgj
              clear hgj
              by_cases hjl : j < l.length
              · skip
                obtain ⟨hbl, m1, m2⟩ := HST.out wr hb1 j hjl
                have hfit := hI.2 l[j] (List.getElem_mem hjl)
                have hcj := blkcell hc1 j (by rw [rowB_size]; omega)
                rw [rowB_get] at hcj
                have hqj : (l.map Stq.s)[j]? = some l[j].s := by rw [List.getElem?_map, List.getElem?_eq_getElem hjl]; rfl
                have hmj : manyOf (l.map Stq.s) j = l[j].s.many := by simp only [manyOf, hqj]
                rw [hmj] at m1
                obtain ⟨fn', cp', heq, henter, hcall⟩ := hfit
                injection heq with e1 _ e2
                injection e1 with e1
                rw [e1, e2] at m2
                have HN : Hid (∀ x, nextTo (l.map Stq.s) S (bt s k) (j + 1) x = if S j = true ∧ l[j].s.fits (bt s k) = true ∧ x = (if l[j].s.many then j else j + 1) then true else nextTo (l.map Stq.s) S (bt s k) j x) := by
                  intro x
                  simp only [nextTo, hqj]
                generalize hmm : l[j].s.many = mj at *
                generalize hff : l[j].s.fits = φ at *
                have HC := Lib.hid hcall
                clear hcall e1 e2 hqj hmj hmm hff
                have hgx := lt_of_block hc1
                have hgy := lt_of_block hc2
                have hrg := bt_range s k
                cases hSj : S j with
                | false =>
                  rw [hSj] at hcj
                  have HN2 : Hid (nextTo (l.map Stq.s) S (bt s k) (j + 1) = nextTo (l.map Stq.s) S (bt s k) j) := by
                    funext x
                    rw [HN.out x, if_neg (by rw [hSj]; simp)]
                  clear hSj
                  go_wp2_with fail
                  go_quiet (fail)
                  go_wp2_with fail
                  go_roundg (l.length - (j + 1))
                  case measure => rw [HGJ.out]; omega
                  case rel =>
                    refine ⟨j + 1, rfl, by omega, by go_num, blkold hc1 _, ?_, (hb1.alloc _).drewN _⟩
                    rw [HN2.out]
                    exact blkold hc2 _
                | true =>
                  rw [hSj] at hcj
                  have hW1 : (wr.alloc (.cells #[.bool mj, .func (.func fn') #[] cp'] 151)).cell? ⟨g1, j, none⟩ = some (.bool true) := (World.cell?_alloc_lt _ _ _ hgx).trans hcj
                  have hW2 : (wr.alloc (.cells #[.bool mj, .func (.func fn') #[] cp'] 151)).cell? ⟨wr.heap.size, 1, none⟩ = some (.func (.func fn') #[] cp') := by simp
                  have hW3 : (wr.alloc (.cells #[.bool mj, .func (.func fn') #[] cp'] 151)).cell? ⟨wr.heap.size, 0, none⟩ = some (.bool mj) := by simp
                  have hWb : But (Sty w1) w1 (wr.alloc (.cells #[.bool mj, .func (.func fn') #[] cp'] 151)) := (hb1.alloc _).mono (fun _ _ h => h.elim)
                  have hWc1 := blkold hc1 (.cells #[.bool mj, .func (.func fn') #[] cp'] 151)
                  have hWc2 := blkold hc2 (.cells #[.bool mj, .func (.func fn') #[] cp'] 151)
                  have hcd := HC.out (wr.alloc (.cells #[.bool mj, .func (.func fn') #[] cp'] 151)).drew hWb.drew (bt s k) hrg.1 hrg.2
                  have hji : (j : Int) < (l.length : Int) + 1 := by omega
                  have hki : (k : Int) < (s.size : Int) := by omega
                  cases hφ : φ (bt s k) with
                  | false =>
                    rw [hφ] at hcd
                    have HCD := Lib.hid hcd
                    have HN2 : Hid (nextTo (l.map Stq.s) S (bt s k) (j + 1) = nextTo (l.map Stq.s) S (bt s k) j) := by
                      funext x
                      rw [HN.out x, if_neg (by rw [hφ]; simp)]
                    clear hcd hφ hSj
                    go_wp2_with fail
                    go_region_held3 (fun w' => w'.cell? ⟨g1, j, none⟩ = some (.bool true) ∧ w'.cell? ⟨wr.heap.size, 1, none⟩ = some (.func (.func fn') #[] cp')) (first | go_keep | exact ⟨hb4.cell_some hW1 (fun h => h), hb4.cell_some hW2 (fun h => h)⟩) (first | (refine HCD.out.mono ?_; rintro e w4 ⟨rfl, hb4⟩))
                    go_wp2_with fail
                    go_roundg (l.length - (j + 1))
                    case measure => rw [HGJ.out]; omega
                    case rel =>
                      refine ⟨j + 1, rfl, by omega, by go_num, (hb4.block g1 (lt_of_block hWc1) (fun h => h)).trans hWc1, ?_, ((hb1.alloc _).drew).trans hb4⟩
                      rw [HN2.out]
                      exact (hb4.block g2 (lt_of_block hWc2) (fun h => h)).trans hWc2
                  | true =>
                    rw [hφ] at hcd
                    have HCD := Lib.hid hcd
                    have HN2 : Hid (∀ x, nextTo (l.map Stq.s) S (bt s k) (j + 1) x = if x = (if mj then j else j + 1) then true else nextTo (l.map Stq.s) S (bt s k) j x) := by
                      intro x
                      rw [HN.out x]
                      simp only [hSj, hφ, true_and]
                    clear hcd hφ hSj
                    cases mj with
                    | false =>
                      go_wp2_with fail
                      go_region_held3 (fun w' => w'.cell? ⟨g1, j, none⟩ = some (.bool true) ∧ w'.cell? ⟨wr.heap.size, 1, none⟩ = some (.func (.func fn') #[] cp')) (first | go_keep | exact ⟨hb4.cell_some hW1 (fun h => h), hb4.cell_some hW2 (fun h => h)⟩) (first | (refine HCD.out.mono ?_; rintro e w4 ⟨rfl, hb4⟩))
                      have u1 := (hb4.block g1 (lt_of_block hWc1) (fun h => h)).trans hWc1
                      have u2 := (hb4.block g2 (lt_of_block hWc2) (fun h => h)).trans hWc2
                      have u3 := hb4.cell_some hW3 (fun h => h)
                      have u4 := blkcell u2 (j + 1) (by rw [rowB_size]; omega)
                      have u5 := blkfree u2 (j + 1)
                      go_wp2_with fail
                      go_roundg (l.length - (j + 1))
                      case measure => rw [HGJ.out]; omega
                      case rel =>
                        refine ⟨j + 1, rfl, by omega, by go_num, blkfar u1 hne _, ?_, But.setCell (((hb1.alloc _).drew).trans hb4) (.inr hg2) _⟩
                        rw [blkset u2 (j + 1) (.bool true), rowB_set]
                        congr 3
                        funext x
                        rw [HN2.out x]
                        rfl
                    | true =>
                      go_wp2_with fail
                      go_region_held3 (fun w' => w'.cell? ⟨g1, j, none⟩ = some (.bool true) ∧ w'.cell? ⟨wr.heap.size, 1, none⟩ = some (.func (.func fn') #[] cp')) (first | go_keep | exact ⟨hb4.cell_some hW1 (fun h => h), hb4.cell_some hW2 (fun h => h)⟩) (first | (refine HCD.out.mono ?_; rintro e w4 ⟨rfl, hb4⟩))
                      have u1 := (hb4.block g1 (lt_of_block hWc1) (fun h => h)).trans hWc1
                      have u2 := (hb4.block g2 (lt_of_block hWc2) (fun h => h)).trans hWc2
                      have u3 := hb4.cell_some hW3 (fun h => h)
                      have u4 := blkcell u2 j (by rw [rowB_size]; omega)
                      have u5 := blkfree u2 j
                      go_wp2_with fail
                      go_roundg (l.length - (j + 1))
                      case measure => rw [HGJ.out]; omega
                      case rel =>
                        refine ⟨j + 1, rfl, by omega, by go_num, blkfar u1 hne _, ?_, But.setCell (((hb1.alloc _).drew).trans hb4) (.inr hg2) _⟩
                        rw [blkset u2 j (.bool true), rowB_set]
                        congr 3
                        funext x
                        rw [HN2.out x]
                        rfl
              · obtain rfl : j = l.length := by omega
                go_wp2_with fail
                refine (HT.out wr g2 _ hb1 hg2 hc2).mono ?_
                rintro e w3 ⟨rfl, hb3, hc3⟩
                have hc1' := (hb3.block g1 (lt_of_block hc1) (fun e => hne e)).trans hc1
                have hb3' : But No w1 w3 := hb1.trans_ hb3 (fun b hb e => by unfold One at e; omega)
                clear hc1 hc2 hb1 hb3
                go_wp2_with fail
                go_roundg (s.size - (k + 1))
                case measure => rw [HGK.out]; omega
                case rel =>
                  refine ⟨k + 1, g2, g1, S, rfl, by omega, rfl, rfl, by go_num, hne.symm, hg2, hg1, ?_, hc1', hb3'⟩
                  rw [hc3]
                  simp only [marks, stepOn, List.length_map, HS.out]
          · obtain rfl : k = s.size := by omega
            have hcn := blkcell hc1 l.length (by rw [rowB_size]; omega)
            rw [rowB_get] at hcn
            go_wp2_with fail
            go_ret2
            refine ⟨?_, hb.trans hb1⟩
            rw [E.out, ← HL.out, List.length_map]
            rfl
end Go.Proofs.Ytinhlaiogkmkfaa.G
