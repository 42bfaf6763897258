/- The reference's Match: the walk, joined. -/
import Derived.Test.YtofgjlfgpnmmdaaRj
import Derived.StillTailTactics
import Derived.IntWalk
namespace Go.Proofs.Ytofgjlfgpnmmdaa.G
open Go.RowKit
attribute [local simp, local go_sem] alloc_drewN setCell_drewN
set_option linter.unusedVariables false
set_option linter.unusedSimpArgs false
set_option maxRecDepth 100000
theorem pcsGo_len (p : ByteArray) : ∀ n x l m, p.size - x ≤ n → l.length ≤ x → x ≤ p.size → pcsGo p x l = .inr m → m.length ≤ p.size := by
  intro n
  induction n with
  | zero =>
    intro x l m h h1 h2 e
    rw [pcs_stop l (by omega)] at e
    injection e with e
    subst e
    omega
  | succ n ih =>
    intro x l m h h1 h2 e
    by_cases hx : x < p.size
    · by_cases c1 : bt p x = 42
      · by_cases c2 : x + 1 < p.size ∧ bt p (x + 1) = 42
        · rw [pcs_all l hx c1 c2] at e
          exact ih _ _ _ (by omega) (by simp; omega) (by omega) e
        · rw [pcs_some l hx c1 c2] at e
          exact ih _ _ _ (by omega) (by simp; omega) (by omega) e
      · by_cases c3 : bt p x = 63
        · rw [pcs_quest l hx c3] at e
          exact ih _ _ _ (by omega) (by simp; omega) (by omega) e
        · by_cases c4 : bt p x = 91
          · cases hB : brk p x with
            | none => rw [pcs_brkno l hx c4 hB] at e; cases e
            | some F =>
              obtain ⟨z, f⟩ := F
              rw [pcs_brk l hx c4 hB] at e
              have := brk_gt hB
              have := brk_le hB
              exact ih _ _ _ (by omega) (by simp; omega) (by omega) e
          · by_cases c5 : bt p x = 92
            · by_cases c6 : p.size ≤ x + 1
              · rw [pcs_escno l hx c5 c6] at e; cases e
              · rw [pcs_esc l hx c5 c6] at e
                exact ih _ _ _ (by omega) (by simp; omega) (by omega) e
            · rw [pcs_byte l hx c1 c3 c4 c5] at e
              exact ih _ _ _ (by omega) (by simp; omega) (by omega) e
    · rw [pcs_stop l hx] at e
      injection e with e
      subst e
      omega
theorem pcs_len0 {p : ByteArray} {l : List Pce} (h : pcsGo p 0 [] = .inr l) : l.length ≤ p.size := pcsGo_len p _ 0 [] l (Nat.le_refl _) (Nat.le_refl _) (Nat.zero_le _) h
theorem rcheck_at (p : ByteArray) (w : World) (hp : p.size ≤ 9223372036854775807) (a c : Int) (h : rcheckRes p = (a, c)) :
    Calls Try.prog 11 #[.string p] w fun e w' => e = .returned (.tuple #[.int .i64 a, .int .i64 c]) ∧ But No w w' := by
  have := rcheck0 p w hp
  rw [h] at this
  exact this
def ROut (w1 : World) (L : List Stp) (s : ByteArray) (n : Nat) (gk : Nat) (v11 v12 : Value) (wr : World) : Prop :=
  ∃ (k g1 : Nat), gk = s.size - k ∧ k ≤ s.size ∧ v11 = .slice (some ⟨g1, 0, none⟩) (n + 1) (n + 1) ∧ v12 = .int .i64 k ∧ w1.heap.size ≤ g1 ∧ wr.heap[g1]? = some (.cells (rowB (n + 1) (marks L s k)) 4 (0, 0)) ∧ But No w1 wr
theorem rset {wr w1 : World} {n g2 k : Nat} {N N' : Nat → Bool} {b : Bool} (hc2 : wr.heap[g2]? = some (.cells (rowB (n + 1) N) 4 (0, 0))) (hb1 : But No w1 wr) (hg2 : w1.heap.size ≤ g2) {g1 : Nat} {S : Nat → Bool} (hc1 : wr.heap[g1]? = some (.cells (rowB (n + 1) S) 4 (0, 0))) (hne : g1 ≠ g2)
    (hN : N' = fun j => if j = k then b else N j) : (wr.setCell ⟨g2, k, none⟩ (.bool b)).heap[g1]? = some (.cells (rowB (n + 1) S) 4 (0, 0)) ∧ (wr.setCell ⟨g2, k, none⟩ (.bool b)).heap[g2]? = some (.cells (rowB (n + 1) N') 4 (0, 0)) ∧ But No w1 (wr.setCell ⟨g2, k, none⟩ (.bool b)) :=
  ⟨blkfar hc1 (by simpa using hne) _, by rw [blkset hc2 k (.bool b), rowB_set, hN], hb1.setCell (p := ⟨g2, k, none⟩) (.inr hg2) _⟩
set_option maxHeartbeats 16000000 in
theorem rmatch0 (p s : ByteArray) (w : World) (hp : p.size ≤ 9223372036854775807) (hs : s.size ≤ 9223372036854775807) :
    Calls Try.prog 14 #[.string p, .string s] w fun e w' => e = .returned (.tuple #[.bool (rmatchRes p s).1, .int .i64 (rmatchRes p s).2]) ∧ But No w w' := by
  have hs2 : s.size ≤ 9223372036854775807 := by omega
  by_cases h1 : 256 < p.size
  · have E0 := Lib.hid (show rcheckRes p = (0, 61) from if_pos h1)
    have E := Lib.hid (show rmatchRes p s = (false, 61) from rmatchRes_of E0.out (by decide))
    go_enter Try.func14, Try.ntmps14
    go_wp2_with fail
    refine (rcheck_at p w hp _ _ E0.out).mono ?_
    rintro e w0 ⟨rfl, hb0⟩
    go_wp2_with fail
    go_ret2
    exact ⟨by rw [E.out]; rfl, hb0⟩
  · have h2 : p.size ≤ 256 := by omega
    cases hG : pcsGo p 0 [] with
    | inl z =>
      have E0 := Lib.hid (show rcheckRes p = ((z : Int), 60) from by unfold rcheckRes; rw [if_neg h1, hG])
      have E := Lib.hid (show rmatchRes p s = (false, 60) from rmatchRes_of E0.out (by simp))
      clear hG
      go_enter Try.func14, Try.ntmps14
      go_wp2_with fail
      refine (rcheck_at p w hp _ _ E0.out).mono ?_
      rintro e w0 ⟨rfl, hb0⟩
      go_wp2_with fail
      go_ret2
      exact ⟨by rw [E.out]; rfl, hb0⟩
    | inr l =>
      have E0 := Lib.hid (show rcheckRes p = (0, 0) from by unfold rcheckRes; rw [if_neg h1, hG])
      have E := Lib.hid (show rmatchRes p s = (marks (l.map toStp) s s.size l.length, 0) from by unfold rmatchRes rL; rw [E0.out, if_pos rfl, hG]; simp)
      have H := Lib.hid hG
      clear hG
      go_enter Try.func14, Try.ntmps14
      go_wp2_with fail
      refine (rcheck_at p w hp _ _ E0.out).mono ?_
      rintro e w0 ⟨rfl, hb0⟩
      go_wp2_with fail
      refine (pieces0 p h2 _ _ H.out).mono ?_
      rintro e w1 ⟨hb1, v, rfl, hI⟩
      have hlen : l.length ≤ 257 := Nat.le_trans (pcs_len0 H.out) (by omega)
      obtain ⟨A0, c0, rfl⟩ := own_slice hI
      have hcase : (A0 = none ∧ l.length = 0) ∨ ∃ b, A0 = some ⟨b, 0, none⟩ := by
        rcases hI.2 with ⟨hv, h0⟩ | ⟨b, cap, cur, hv, _⟩
        · injection hv with hv _ _
          exact .inl ⟨hv, h0⟩
        · injection hv with hv _ _
          exact .inr ⟨b, hv⟩
      have hst := piece_cells hI
      have ht : ∀ (w2 : World) (g : Nat) (f : Nat → Bool), But No w1 w2 → w1.heap.size ≤ g → w2.heap[g]? = some (.cells (rowB (l.length + 1) f) 4 (0, 0)) →
          Calls Try.prog 20 #[.slice A0 l.length c0, .slice (some ⟨g, 0, none⟩) (l.length + 1) (l.length + 1)] w2 fun e w' => e = .returned (.tuple #[]) ∧ But (One g) w2 w' ∧ w'.heap[g]? = some (.cells (rowB (l.length + 1) (thruTo (manyOf (l.map toStp)) l.length f)) 4 (0, 0)) := by
        intro w2 g f hb2 hg hc
        refine open_any l.length c0 A0 (fun i => if h : i < l.length then l[i].1 else 0) (manyOf (l.map toStp)) g f w2 ?_ ?_ (by omega) hc
        · intro i hi
          simp only [dif_pos hi]
          exact many_toStp l i hi
        · intro i hi
          obtain ⟨b, q1, q2, q3, q4, q5⟩ := hst i hi
          exact ⟨b, q1, by omega, by simp only [dif_pos hi]; exact hb2.cell_some q4 (fun h => h)⟩
      have HT := Lib.hid ht
      clear ht
      have hmk := run_makeB l.length (by omega)
      have hb01 := hb0.trans hb1
      clear hb0 hb1
      rcases hcase with ⟨rfl, h0⟩ | ⟨b, rfl⟩
      · have H0 := Lib.hid h0
        clear h0 hst hI
        have hr0 : (rowB (l.length + 1) none_)[0]? = some (Value.bool false) := by rw [Array.getElem?_eq_getElem (by rw [rowB_size]; omega), rowB_get]; rfl
        go_wp2_with fail
        clear hr0
        have hs1 := heap_alloc_new w1 (.cells ((rowB (l.length + 1) none_).setIfInBounds 0 (.bool true)) 4 (0, 0))
        rw [rowB_set] at hs1
        rw [rowB_set]
        refine (HT.out _ w1.heap.size _ ((But.refl No w1).alloc _) (Nat.le_refl _) hs1).mono ?_
        rintro e w2 ⟨rfl, hb2, hc1'⟩
        have hb2' : But No w1 w2 := ((But.refl No w1).alloc _).trans_ hb2 (fun b hb e => by unfold One at e; omega)
        have hstart : (fun j => if j = 0 then true else none_ j) = (fun j => j == 0) := by
          funext j
          unfold none_
          cases j <;> simp
        rw [hstart] at hc1'
        clear hb2 hs1 hstart
        go_wp2_with fail
        go_loopg [11, 12] s.size (fun k v11 v12 wr => ROut w1 (l.map toStp) s l.length k v11 v12 wr)
        case atStart =>
          refine ⟨0, w1.heap.size, rfl, Nat.zero_le _, rfl, rfl, Nat.le_refl _, ?_, hb2'⟩
          rw [hc1']
          simp only [marks, start, List.length_map]
        case round =>
          clear hc1' hb2'
          obtain ⟨k, g1, hgk, hk, rfl, rfl, hg1, hc1, hb1⟩ := hrel
          have HGK := Lib.hid hgk
          clear hgk
          obtain ⟨wx, rfl⟩ : ∃ wx : World, wx = wr := ⟨_, rfl⟩
          by_cases hks : k < s.size
          · have hbt := bt_at s k hks
            obtain ⟨cb, hcb⟩ : ∃ cb : Nat, bt s k = (cb : Int) := ⟨(bt s k).toNat, by have := bt_range s k; omega⟩
            have hcb2 : cb < 256 := by have := bt_range s k; omega
            have HCB := Lib.hid hcb
            rw [hcb] at hbt
            clear hcb
            have hgz := lt_of_block hc1
            have hc1c := blkold hc1 (.cells (rowB (l.length + 1) none_) 4 (0, 0))
            have hc2c := heap_alloc_new wx (.cells (rowB (l.length + 1) none_) 4 (0, 0))
            have hb1c := hb1.alloc (.cells (rowB (l.length + 1) none_) 4 (0, 0))
            have hg2 : w1.heap.size ≤ wx.heap.size := hb1.size
            go_wp2_with fail
            generalize hS : marks (l.map toStp) s k = S at *
            have HS := Lib.hid hS
            clear hS
            go_loopg [14] l.length (fun kk v14 wr => InnerAt w1 (l.map toStp) S cb l.length g1 wx.heap.size kk v14 wr)
            case atStart => exact ⟨0, rfl, Nat.zero_le _, rfl, hc1c, hc2c, hb1c⟩
            case round =>
              clear hc1c hc2c hb1c hc1 hb1
              obtain ⟨j, hgj, hj, rfl, hc1, hc2, hb1⟩ := hrel
              have HGJ := Lib.hid hgj
              clear hgj
              by_cases hjl : j < l.length
              · exact absurd hjl (by rw [H0.out]; exact Nat.not_lt_zero _)
              · obtain rfl : j = l.length := by omega
                go_wp2_with fail
                refine (HT.out wr wx.heap.size _ hb1 hg2 hc2).mono ?_
                rintro e w3 ⟨rfl, hb3, hc3⟩
                have hb3' : But No w1 w3 := hb1.trans_ hb3 (fun b hb e => by unfold One at e; omega)
                clear hc1 hc2 hb1 hb3
                go_wp2_with fail
                go_roundg (s.size - (k + 1))
                case measure => rw [HGK.out]; omega
                case rel =>
                  refine ⟨k + 1, wx.heap.size, rfl, by omega, rfl, by go_num, hg2, ?_, hb3'⟩
                  rw [hc3]
                  simp only [marks, stepOn, List.length_map, HS.out, HCB.out]
          · obtain rfl : k = s.size := by omega
            have hcn := blkcell hc1 l.length (by rw [rowB_size]; omega)
            rw [rowB_get] at hcn
            go_wp2_with fail
            go_ret2
            refine ⟨?_, hb01.trans hb1⟩
            rw [E.out]
            rfl
      · have hst0 : ∀ w2, But No w1 w2 → ∀ i (hi : i < l.length), b < w1.heap.size ∧ w2.cell? ⟨b, i * 257, none⟩ = some (.int .i64 l[i].1) ∧ ∀ x : Nat, x < 256 → w2.cell? ⟨b, i * 257 + 1 + x, none⟩ = some (.bool (l[i].2 (x : Int))) := by
          intro w2 hb2 i hi
          obtain ⟨b', q1, q2, q3, q4, q5⟩ := hst i hi
          injection q1 with q1
          injection q1 with q1
          subst q1
          exact ⟨q3, hb2.cell_some q4 (fun h => h), fun x hx => hb2.cell_some (q5 x hx) (fun h => h)⟩
        have HST := Lib.hid hst0
        clear hst hst0 hI
        have hr0 : (rowB (l.length + 1) none_)[0]? = some (Value.bool false) := by rw [Array.getElem?_eq_getElem (by rw [rowB_size]; omega), rowB_get]; rfl
        go_wp2_with fail
        clear hr0
        have hs1 := heap_alloc_new w1 (.cells ((rowB (l.length + 1) none_).setIfInBounds 0 (.bool true)) 4 (0, 0))
        rw [rowB_set] at hs1
        rw [rowB_set]
        refine (HT.out _ w1.heap.size _ ((But.refl No w1).alloc _) (Nat.le_refl _) hs1).mono ?_
        rintro e w2 ⟨rfl, hb2, hc1'⟩
        have hb2' : But No w1 w2 := ((But.refl No w1).alloc _).trans_ hb2 (fun b hb e => by unfold One at e; omega)
        have hstart : (fun j => if j = 0 then true else none_ j) = (fun j => j == 0) := by
          funext j
          unfold none_
          cases j <;> simp
        rw [hstart] at hc1'
        clear hb2 hs1 hstart
        go_wp2_with fail
        go_loopg [11, 12] s.size (fun k v11 v12 wr => ROut w1 (l.map toStp) s l.length k v11 v12 wr)
        case atStart =>
          refine ⟨0, w1.heap.size, rfl, Nat.zero_le _, rfl, rfl, Nat.le_refl _, ?_, hb2'⟩
          rw [hc1']
          simp only [marks, start, List.length_map]
        case round =>
          clear hc1' hb2'
          obtain ⟨k, g1, hgk, hk, rfl, rfl, hg1, hc1, hb1⟩ := hrel
          have HGK := Lib.hid hgk
          clear hgk
          obtain ⟨wx, rfl⟩ : ∃ wx : World, wx = wr := ⟨_, rfl⟩
          by_cases hks : k < s.size
          · have hbt := bt_at s k hks
            obtain ⟨cb, hcb⟩ : ∃ cb : Nat, bt s k = (cb : Int) := ⟨(bt s k).toNat, by have := bt_range s k; omega⟩
            have hcb2 : cb < 256 := by have := bt_range s k; omega
            have HCB := Lib.hid hcb
            rw [hcb] at hbt
            clear hcb
            have hgz := lt_of_block hc1
            have hc1c := blkold hc1 (.cells (rowB (l.length + 1) none_) 4 (0, 0))
            have hc2c := heap_alloc_new wx (.cells (rowB (l.length + 1) none_) 4 (0, 0))
            have hb1c := hb1.alloc (.cells (rowB (l.length + 1) none_) 4 (0, 0))
            have hg2 : w1.heap.size ≤ wx.heap.size := hb1.size
            go_wp2_with fail
            generalize hS : marks (l.map toStp) s k = S at *
            have HS := Lib.hid hS
            clear hS
            go_loopg [14] l.length (fun kk v14 wr => InnerAt w1 (l.map toStp) S cb l.length g1 wx.heap.size kk v14 wr)
            case atStart => exact ⟨0, rfl, Nat.zero_le _, rfl, hc1c, hc2c, hb1c⟩
            case round =>
              clear hc1c hc2c hb1c hc1 hb1
              obtain ⟨j, hgj, hj, rfl, hc1, hc2, hb1⟩ := hrel
              have HGJ := Lib.hid hgj
              clear hgj
              by_cases hjl : j < l.length
              · have hS0 := blkcell hc1 j (by rw [rowB_size]; omega)
                rw [rowB_get] at hS0
                have hlm : j < (l.map toStp).length := by simpa using hjl
                have hce := (HST.out wr hb1 j hjl).2.1
                have hcf := (HST.out wr hb1 j hjl).2.2 cb hcb2
                have hgeq : (l.map toStp)[j] = toStp l[j] := List.getElem_map ..
                obtain ⟨d, hd⟩ : ∃ d, l[j].1 = d := ⟨_, rfl⟩
                obtain ⟨fb, hfb⟩ : ∃ fb, l[j].2 (cb : Int) = fb := ⟨_, rfl⟩
                rw [hd] at hce
                rw [hfb] at hcf
                cases hSj : S j with
                | false =>
                  rw [hSj] at hS0
                  have E2 := Lib.hid (nextTo_skip (l.map toStp) S cb j hSj)
                  clear hce hcf hgeq hd hfb hSj
                  go_wp2_with fail
                  go_roundg (l.length - (j + 1))
                  case measure => rw [HGJ.out]; omega
                  case rel => exact ⟨j + 1, rfl, by omega, by go_num, hc1, by rw [E2.out]; exact hc2, hb1⟩
                | true =>
                  rw [hSj] at hS0
                  by_cases hd0 : d = 0
                  · subst hd0
                    have hmany : (l.map toStp)[j].many = false := by rw [hgeq]; simp [toStp, hd]
                    have hfit : (l.map toStp)[j].fits cb = fb := by rw [hgeq]; simp [toStp, hd, hfb]
                    have hN := nextTo_one (l.map toStp) S cb j hlm hSj hmany
                    rw [hfit] at hN
                    have h3 := blkcell hc2 (j + 1) (by rw [rowB_size]; omega)
                    rw [rowB_get, nextTo_off _ _ _ _ _ (Nat.lt_succ_self j)] at h3
                    have h4 := blkfree hc2 (j + 1)
                    have hset := Lib.hid (rset hc2 hb1 hg2 hc1 (by omega : g1 ≠ wx.heap.size) hN)
                    clear hgeq hd hfb hSj hmany hfit hN
                    go_wp2_with fail
                    have q1 : IntKind.i64.wrap ((j : Int) + 1) = (j : Int) + 1 := IntWalk.i64_in _ (by omega)
                    have q2 : (0 : Int) ≤ (j : Int) + 1 := by omega
                    have q3 : ((j : Int) + 1).toNat = j + 1 := by omega
                    have q4 : (j : Int) < (l.length : Int) := by omega
                    have q5 : (cb : Int) < 256 := by omega
                    go_still_tail 20, (by kernel_rfl)
                    change wpList _ _ _ _ _ wr.drew
                    go_wp2_with fail
                    go_roundg (l.length - (j + 1))
                    case measure => rw [HGJ.out]; omega
                    case rel => exact ⟨j + 1, rfl, by omega, by go_num, hset.out.1, hset.out.2.1, hset.out.2.2.drew⟩
                  · have hmany : (l.map toStp)[j].many = true := by rw [hgeq]; simp [toStp, hd, hd0]
                    have e0 : (d == 0) = false := by simp [hd0]
                    have h4 := blkfree hc2 j
                    have h5 := blkcell hc2 j (by rw [rowB_size]; omega)
                    by_cases hd2 : d = 2
                    · have e2 : (d == 2) = true := by simp [hd2]
                      have hfit : (l.map toStp)[j].fits cb = true := by rw [hgeq]; simp [toStp, hd, hd2]
                      have hset := Lib.hid (rset hc2 hb1 hg2 hc1 (by omega : g1 ≠ wx.heap.size) (nextTo_many (l.map toStp) S cb j hlm hSj hmany hfit))
                      clear hgeq hd hfb hSj hmany hfit hd0 hd2
                      go_wp2_with fail
                      go_roundg (l.length - (j + 1))
                      case measure => rw [HGJ.out]; omega
                      case rel => exact ⟨j + 1, rfl, by omega, by go_num, hset.out⟩
                    · have e2 : (d == 2) = false := by simp [hd2]
                      by_cases hsl : cb = 47
                      · have e3 : ((cb : Int) != 47) = false := by subst hsl; rfl
                        have hfit : (l.map toStp)[j].fits cb = false := by rw [hgeq]; simp [toStp, hd, hd0, hd2, hsl]
                        have E2 := Lib.hid (nextTo_no (l.map toStp) S cb j hlm hfit)
                        clear hgeq hd hfb hSj hmany hfit hd0 hd2 hsl
                        go_wp2_with fail
                        go_roundg (l.length - (j + 1))
                        case measure => rw [HGJ.out]; omega
                        case rel => exact ⟨j + 1, rfl, by omega, by go_num, hc1, by rw [E2.out]; exact hc2, hb1⟩
                      · have e3 : ((cb : Int) != 47) = true := by simp; omega
                        have hfit : (l.map toStp)[j].fits cb = true := by rw [hgeq]; simp [toStp, hd, hd0, hd2]; omega
                        have hset := Lib.hid (rset hc2 hb1 hg2 hc1 (by omega : g1 ≠ wx.heap.size) (nextTo_many (l.map toStp) S cb j hlm hSj hmany hfit))
                        clear hgeq hd hfb hSj hmany hfit hd0 hd2 hsl
                        go_wp2_with fail
                        go_roundg (l.length - (j + 1))
                        case measure => rw [HGJ.out]; omega
                        case rel => exact ⟨j + 1, rfl, by omega, by go_num, hset.out⟩
              · obtain rfl : j = l.length := by omega
                go_wp2_with fail
                refine (HT.out wr wx.heap.size _ hb1 hg2 hc2).mono ?_
                rintro e w3 ⟨rfl, hb3, hc3⟩
                have hb3' : But No w1 w3 := hb1.trans_ hb3 (fun b hb e => by unfold One at e; omega)
                clear hc1 hc2 hb1 hb3
                go_wp2_with fail
                go_roundg (s.size - (k + 1))
                case measure => rw [HGK.out]; omega
                case rel =>
                  refine ⟨k + 1, wx.heap.size, rfl, by omega, rfl, by go_num, hg2, ?_, hb3'⟩
                  rw [hc3]
                  simp only [marks, stepOn, List.length_map, HS.out, HCB.out]
          · obtain rfl : k = s.size := by omega
            have hcn := blkcell hc1 l.length (by rw [rowB_size]; omega)
            rw [rowB_get] at hcn
            go_wp2_with fail
            go_ret2
            refine ⟨?_, hb01.trans hb1⟩
            rw [E.out]
            rfl
end Go.Proofs.Ytofgjlfgpnmmdaa.G
