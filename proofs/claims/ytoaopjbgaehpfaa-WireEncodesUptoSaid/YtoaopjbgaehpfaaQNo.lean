/- The reference's plan: how long a plan is (printed by gen_no.py). -/
import Derived.Test.YtoaopjbgaehpfaaQNn
import Derived.Test.YtoaopjbgaehpfaaQJo
namespace Go.Proofs.Ytoaopjbgaehpfaa.G
open Go.RowKit
attribute [local simp, local go_sem] alloc_drewN setCell_drewN
set_option linter.unusedVariables false
set_option linter.unusedSimpArgs false
set_option maxRecDepth 100000
theorem number17 (n : Int) (hn : n < 268435456) (w : World) : Calls Try.prog 69 #[.int .i64 n] w fun e w' => e = .returned (.int .i64 (numL n)) ∧ w = w' := by
  by_cases c1 : n < 128
  · have d1 : decide (n < 128) = true := decide_eq_true c1
    have E := Lib.hid (numL_small (n := n) (.inl (by omega)))
    go_enter Try.func69, Try.ntmps69
    go_wp2_with fail
    go_ret
    exact ⟨by rw [E.out]; rfl, rfl⟩
  have d1 : decide (n < 128) = false := decide_eq_false c1
  by_cases c2 : n < 16384
  · have d2 : decide (n < 16384) = true := decide_eq_true c2
    have E := Lib.hid (show numL n = 2 from by unfold numL; rw [if_neg (by omega), if_pos (by omega)])
    go_enter Try.func69, Try.ntmps69
    go_wp2_with fail
    go_ret
    exact ⟨by rw [E.out]; rfl, rfl⟩
  have d2 : decide (n < 16384) = false := decide_eq_false c2
  by_cases c3 : n < 2097152
  · have d3 : decide (n < 2097152) = true := decide_eq_true c3
    have E := Lib.hid (show numL n = 3 from by unfold numL; rw [if_neg (by omega), if_neg (by omega), if_pos (by omega)])
    go_enter Try.func69, Try.ntmps69
    go_wp2_with fail
    go_ret
    exact ⟨by rw [E.out]; rfl, rfl⟩
  have d3 : decide (n < 2097152) = false := decide_eq_false c3
  have E := Lib.hid (show numL n = 4 from by unfold numL; rw [if_neg (by omega), if_neg (by omega), if_neg (by omega)])
  go_enter Try.func69, Try.ntmps69
  go_wp2_with fail
  go_ret
  exact ⟨by rw [E.out]; rfl, rfl⟩
theorem num17q (n L : Int) (hL : numL n = L) (hn : n < 268435456) (w : World) : Calls Try.prog 69 #[.int .i64 n] w fun e w' => e = .returned (.int .i64 L) ∧ w = w' :=
  (number17 n hn w).mono fun e w' h => ⟨by rw [h.1, hL], h.2⟩
def stepSz1 (x : Int × Int) : Int := 1 + stepSz x
theorem stepSz1_sum : ∀ c : List (Int × Int), (c.map stepSz1).sum = (c.length : Int) + (c.map stepSz).sum
  | [] => rfl
  | a :: l => by
    rw [List.map_cons, List.sum_cons, List.map_cons, List.sum_cons, List.length_cons, stepSz1_sum l]
    unfold stepSz1
    omega
theorem stepsSz1_bnd {r : List (Int × Int)} (h : r.length ≤ 1024) (i : Nat) : 0 ≤ ((r.map stepSz1).take i).sum ∧ ((r.map stepSz1).take i).sum ≤ 5120 := by
  have := sum_bnd_take (B := 5) (by decide) (fs := r.map stepSz1) (fun x hx => by obtain ⟨y, _, rfl⟩ := List.mem_map.1 hx; have := stepSz_bnd y; unfold stepSz1; omega) i
  rw [List.length_map] at this
  omega
theorem numsL_bnd {r : List Int} (h : r.length ≤ 256) (i : Nat) : 0 ≤ ((r.map numL).take i).sum ∧ ((r.map numL).take i).sum ≤ 1024 := by
  have := sum_bnd_take (B := 4) (by decide) (fs := r.map numL) (fun x hx => by obtain ⟨y, _, rfl⟩ := List.mem_map.1 hx; have := numL_bound y; omega) i
  rw [List.length_map] at this
  omega
theorem sumL2 (a b : Int) : sumL [a, b] = numL a + numL b := by unfold sumL; simp
theorem sumL1 (a : Int) : sumL [a] = numL a := by unfold sumL; simp
theorem sumL8 (a b c d e f g h : Int) : sumL [a, b, c, d, e, f, g, h] = numL a + numL b + numL c + numL d + numL e + numL f + numL g + numL h := by unfold sumL; simp; omega
set_option maxHeartbeats 16000000 in
theorem size17 (At Aj : Option Addr) (ct cj : Nat) (ts : List ByteArray) (js : List JobP) (w : World) (hT : StrsIn w At ts) (hJ : JobsIn w Aj js) (hf : SizeFits ts js) (hn : ∀ j ∈ js, JobNums j) :
    Calls Try.prog 57 #[.agg #[.slice At ts.length ct, .slice Aj js.length cj]] w fun e w' => e = .returned (.int .i64 (sizeP ts js)) ∧ But No w w' := by
  have htl := hf.texts
  have hjl := hf.jobs
  obtain ⟨La, hLa⟩ : ∃ L, numL (ts.length : Int) = L := ⟨_, rfl⟩
  have hbLa := numL_bound (ts.length : Int)
  rw [hLa] at hbLa
  have HLa := Lib.hid (fun W' => num17q (ts.length : Int) La hLa (by omega) W')
  obtain ⟨Lb, hLb⟩ : ∃ L, numL (js.length : Int) = L := ⟨_, rfl⟩
  have hbLb := numL_bound (js.length : Int)
  rw [hLb] at hbLb
  have HLb := Lib.hid (fun W' => num17q (js.length : Int) Lb hLb (by omega) W')
  obtain ⟨B1, hB1⟩ : ∃ s, 5 + La = s := ⟨_, rfl⟩
  have hwB1 : IntKind.i64.wrap (5 + La) = B1 := by rw [IntKind.wrap_i64]; omega
  have HB1 := Lib.hid hB1
  obtain ⟨C1, hC1⟩ : ∃ s, B1 + Lb = s := ⟨_, rfl⟩
  have hwC1 : IntKind.i64.wrap (B1 + Lb) = C1 := by rw [IntKind.wrap_i64]; omega
  have HC1 := Lib.hid hC1
  obtain ⟨B0, hB0⟩ : ∃ B, C1 = B := ⟨_, rfl⟩
  have hB0b : 7 ≤ B0 ∧ B0 ≤ 13 := by omega
  have HB0 := Lib.hid (show 5 + sumL [(ts.length : Int), (js.length : Int)] = B0 from by rw [sumL2, hLa, hLb]; omega)
  have HT := Lib.hid hT
  have HJ := Lib.hid hJ
  have HF := Lib.hid hf
  have HN := Lib.hid hn
  obtain ⟨W, hW⟩ : ∃ W, w.alloc (.cells #[.slice At ts.length ct, .slice Aj js.length cj] 25) = W := ⟨_, rfl⟩
  have HW := Lib.hid (show But No w W from by rw [← hW]; exact (But.refl No w).alloc _)
  have HBP := Lib.hid (show W.heap[w.heap.size]? = some (.cells #[.slice At ts.length ct, .slice Aj js.length cj] 25 (0, 0)) from by rw [← hW]; exact heap_alloc_new w _)
  have HW2 := Lib.hid (show w.heap.size + 1 = W.heap.size from by rw [← hW]; simp)
  have p0 : W.cell? ⟨w.heap.size, 0, none⟩ = some (.slice At ts.length ct) := blkcell HBP.out 0 (by simp)
  have p1 : W.cell? ⟨w.heap.size, 1, none⟩ = some (.slice Aj js.length cj) := blkcell HBP.out 1 (by simp)
  rw [hB0] at hwC1
  clear hT hJ hf hn hB1 hC1 hLa hLb hB0
  go_enter Try.func57, Try.ntmps57
  go_wp2_with fail
  refine wp_region_held_drew (S := (fun w' => But No W w')) (by kernel_rfl) ((But.refl No W).drewN 1) (fun hS => ?_)
  refine takeE 0 (some 11) rfl rfl (fun w e1 => by go_simp <;> (with_reducible rfl)) hS ?_
  simp only [putS]
  refine takeE 1 (some 12) rfl rfl (fun w e1 => by have z_p0 := e1.cell_some p0 (fun c => c); go_simp <;> (with_reducible rfl)) hS ?_
  simp only [putS]
  refine takeE 2 (some 13) rfl rfl (fun w e1 => by go_simp <;> (with_reducible rfl)) hS ?_
  simp only [putS]
  refine takeE 5 (some 16) rfl rfl (fun w e1 => by go_simp <;> (with_reducible rfl)) hS ?_
  simp only [putS]
  refine takeE 6 (some 17) rfl rfl (fun w e1 => by have z_p1 := e1.cell_some p1 (fun c => c); go_simp <;> (with_reducible rfl)) hS ?_
  simp only [putS]
  refine takeE 7 (some 18) rfl rfl (fun w e1 => by go_simp <;> (with_reducible rfl)) hS ?_
  simp only [putS]
  refine wpAnyH_ready (rs := [3]) (by kernel_rfl) (by simp) (AllReadyH.cons rfl (fun K3 hK3 => ?_) AllReadyH.nil)
  rw [if_pos (by kernel_rfl)]
  go_simp
  go_at_call 69
  refine (HLa.out _).mono ?_
  rintro e w8 ⟨rfl, rfl⟩
  simp only []
  refine hK3.out _ _ hS (fun hS => ?_)
  try simp only [putS, List.getElem_toArray, List.getElem_cons_zero, List.getElem_cons_succ]
  refine takeE 4 (some 15) rfl rfl (fun w e1 => by go_simp <;> (with_reducible rfl)) hS ?_
  simp only [putS]
  refine wpAnyH_ready (rs := [8]) (by kernel_rfl) (by simp) (AllReadyH.cons rfl (fun K8 hK8 => ?_) AllReadyH.nil)
  rw [if_pos (by kernel_rfl)]
  go_simp
  go_at_call 69
  refine (HLb.out _).mono ?_
  rintro e w8 ⟨rfl, rfl⟩
  simp only []
  refine hK8.out _ _ hS (fun hS => ?_)
  try simp only [putS, List.getElem_toArray, List.getElem_cons_zero, List.getElem_cons_succ]
  refine takeE 9 (some 20) rfl rfl (fun w e1 => by go_simp <;> (with_reducible rfl)) hS ?_
  simp only [putS]
  refine takeE 10 (some 3) rfl rfl (fun w e1 => by go_simp <;> (with_reducible rfl)) hS ?_
  simp only [putS]
  refine wpAnyH_done (by kernel_rfl) ?_ _
  have HS1 := Lib.hid hS
  clear hW p0 p1 hS hwB1 hwC1 hbLa hbLb
  go_wp2_with fail
  go_loopg [3, 4] ts.length (fun gk v3 vi wr => SumAt W B0 ts.length (ts.map textSz) gk v3 vi wr)
  case atStart => exact ⟨0, rfl, Nat.zero_le _, rfl, HS1.out, by simp⟩
  case round =>
    obtain ⟨i, hgk, hi, rfl, hb, rfl⟩ := hrel
    have HGK := Lib.hid hgk
    have HBW := Lib.hid hb
    have HBt := Lib.hid (HW.out.trans hb)
    have hsb := textsSz_bnd HF.out.texts HF.out.sizes i
    obtain ⟨s0, hs0⟩ : ∃ s, ((ts.map textSz).take i).sum = s := ⟨_, rfl⟩
    rw [hs0] at hsb ⊢
    obtain ⟨S0, hS0⟩ : ∃ s, B0 + s0 = s := ⟨_, rfl⟩
    rw [hS0]
    have HS0 := Lib.hid hS0
    clear hgk hb
    have hbp_ := (HBW.out.block w.heap.size (by have := HW2.out; omega) (fun c => c)).trans HBP.out
    have q0 : wr.cell? ⟨w.heap.size, 0, none⟩ = some (.slice At ts.length ct) := blkcell hbp_ 0 (by simp)
    have q1 : wr.cell? ⟨w.heap.size, 1, none⟩ = some (.slice Aj js.length cj) := blkcell hbp_ 1 (by simp)
    clear hbp_
    by_cases hlt : i < ts.length
    · obtain ⟨ad, hA, k1⟩ := HT.out i hlt
      cases hA
      have hlt' : (i : Int) < (ts.length : Int) := by omega
      have dl : decide ((i : Int) < (ts.length : Int)) = true := decide_eq_true hlt'
      have hts := HF.out.sizes _ (List.getElem_mem hlt)
      have HTK := Lib.hid (sum_take_succ (fs := ts.map textSz) (i := i) (by rw [List.length_map]; exact hlt))
      obtain ⟨x, hx⟩ : ∃ x, ts[i] = x := ⟨_, rfl⟩
      rw [hx] at k1 hts
      have k1' := HBt.out.cell_some k1 (fun c => c)
      obtain ⟨L, hL⟩ : ∃ L, numL (x.size : Int) = L := ⟨_, rfl⟩
      have hbL := numL_bound (x.size : Int)
      rw [hL] at hbL
      have HL := Lib.hid (fun W' => num17q (x.size : Int) L hL (by omega) W')
      obtain ⟨X1, hX1⟩ : ∃ s, S0 + L = s := ⟨_, rfl⟩
      have hwX1 : IntKind.i64.wrap (S0 + L) = X1 := by rw [IntKind.wrap_i64]; omega
      obtain ⟨X2, hX2⟩ : ∃ s, X1 + (x.size : Int) = s := ⟨_, rfl⟩
      have hwX2 : IntKind.i64.wrap (X1 + (x.size : Int)) = X2 := by rw [IntKind.wrap_i64]; omega
      have HX1 := Lib.hid hX1
      have HX2 := Lib.hid hX2
      have E := Lib.hid (show X2 = B0 + ((ts.map textSz).take (i + 1)).sum from by
        rw [HTK.out, hs0, List.getElem_map, hx]; unfold textSz; rw [sumL1, hL]; omega)
      clear hx hs0 HTK hL k1 hX1 hX2 hS0 hsb
      go_wp2_with fail
      refine wp_region_held_drew (S := (fun w' => But No wr w')) (by kernel_rfl) ((But.refl No wr).drewN 1) (fun hS => ?_)
      refine takeE 0 (some 28) rfl rfl (fun w e1 => by go_simp <;> (with_reducible rfl)) hS ?_
      simp only [putS]
      refine takeE 1 (some 29) rfl rfl (fun w e1 => by go_simp <;> (with_reducible rfl)) hS ?_
      simp only [putS]
      refine takeE 2 (some 30) rfl rfl (fun w e1 => by have z_q0 := e1.cell_some q0 (fun c => c); go_simp <;> (with_reducible rfl)) hS ?_
      simp only [putS]
      refine takeE 3 (some 31) rfl rfl (fun w e1 => by go_simp <;> (with_reducible rfl)) hS ?_
      simp only [putS]
      refine takeE 4 (some 32) rfl rfl (fun w e1 => by go_simp <;> (with_reducible rfl)) hS ?_
      simp only [putS]
      refine takeE 5 (some 33) rfl rfl (fun w e1 => by have z_k1' := e1.cell_some k1' (fun c => c); go_simp <;> (with_reducible rfl)) hS ?_
      simp only [putS]
      refine takeE 6 (some 34) rfl rfl (fun w e1 => by go_simp <;> (with_reducible rfl)) hS ?_
      simp only [putS]
      refine takeE 9 (some 37) rfl rfl (fun w e1 => by go_simp <;> (with_reducible rfl)) hS ?_
      simp only [putS]
      refine takeE 10 (some 38) rfl rfl (fun w e1 => by have z_q0 := e1.cell_some q0 (fun c => c); go_simp <;> (with_reducible rfl)) hS ?_
      simp only [putS]
      refine takeE 11 (some 39) rfl rfl (fun w e1 => by go_simp <;> (with_reducible rfl)) hS ?_
      simp only [putS]
      refine takeE 12 (some 40) rfl rfl (fun w e1 => by go_simp <;> (with_reducible rfl)) hS ?_
      simp only [putS]
      refine takeE 13 (some 41) rfl rfl (fun w e1 => by have z_k1' := e1.cell_some k1' (fun c => c); go_simp <;> (with_reducible rfl)) hS ?_
      simp only [putS]
      refine takeE 14 (some 42) rfl rfl (fun w e1 => by go_simp <;> (with_reducible rfl)) hS ?_
      simp only [putS]
      refine wpAnyH_ready (rs := [7]) (by kernel_rfl) (by simp) (AllReadyH.cons rfl (fun K7 hK7 => ?_) AllReadyH.nil)
      rw [if_pos (by kernel_rfl)]
      go_simp
      go_at_call 69
      refine (HL.out _).mono ?_
      rintro e w8 ⟨rfl, rfl⟩
      simp only []
      refine hK7.out _ _ hS (fun hS => ?_)
      try simp only [putS, List.getElem_toArray, List.getElem_cons_zero, List.getElem_cons_succ]
      refine takeE 8 (some 36) rfl rfl (fun w e1 => by go_simp <;> (with_reducible rfl)) hS ?_
      simp only [putS]
      refine takeE 15 (some 43) rfl rfl (fun w e1 => by go_simp <;> (with_reducible rfl)) hS ?_
      simp only [putS]
      refine takeE 16 (some 3) rfl rfl (fun w e1 => by go_simp <;> (with_reducible rfl)) hS ?_
      simp only [putS]
      refine wpAnyH_done (by kernel_rfl) ?_ _
      go_wp2_with fail
      go_roundg (ts.length - (i + 1))
      case measure => rw [HGK.out]; omega
      case rel => exact ⟨i + 1, rfl, by omega, by go_num, HBW.out.trans hS, by rw [E.out]⟩
    obtain rfl : i = ts.length := by omega
    have hlt' : ¬ (ts.length : Int) < (ts.length : Int) := by omega
    rw [List.take_of_length_le (by rw [List.length_map]; exact Nat.le_refl _)] at hs0
    have HTS := Lib.hid (show 5 + sumL [(ts.length : Int), (js.length : Int)] + (ts.map textSz).sum = S0 from by rw [HB0.out, hs0]; exact HS0.out)
    have hS0b : 0 ≤ S0 ∧ S0 ≤ 268697700 := by omega
    clear hs0 hS0 hsb hB0b
    go_wp2_with fail
    go_loopg [3, 5] js.length (fun gk v3 vi wx => SumAt wr S0 js.length (js.map jobSz) gk v3 vi wx)
    case atStart => exact ⟨0, rfl, Nat.zero_le _, rfl, But.refl _ _, by simp⟩
    case round =>
      rename World => wx
      obtain ⟨i, hgk, hi, rfl, hb, rfl⟩ := hrel
      have HGKj := Lib.hid hgk
      have HYr := Lib.hid hb
      have HYW := Lib.hid (HBW.out.trans hb)
      have HYt := Lib.hid (HBt.out.trans hb)
      have hsb := jobsSz_bnd HF.out.jobs HF.out.each i
      obtain ⟨s1, hs1⟩ : ∃ s, ((js.map jobSz).take i).sum = s := ⟨_, rfl⟩
      rw [hs1] at hsb ⊢
      obtain ⟨T0, hT0⟩ : ∃ s, S0 + s1 = s := ⟨_, rfl⟩
      rw [hT0]
      have HT0 := Lib.hid hT0
      clear hgk hb q0 q1
      have hbp_ := (HYW.out.block w.heap.size (by have := HW2.out; omega) (fun c => c)).trans HBP.out
      have q0 : wx.cell? ⟨w.heap.size, 0, none⟩ = some (.slice At ts.length ct) := blkcell hbp_ 0 (by simp)
      have q1 : wx.cell? ⟨w.heap.size, 1, none⟩ = some (.slice Aj js.length cj) := blkcell hbp_ 1 (by simp)
      clear hbp_
      by_cases hlt : i < js.length
      case neg =>
        obtain rfl : i = js.length := by omega
        have hlt' : ¬ (js.length : Int) < (js.length : Int) := by omega
        rw [List.take_of_length_le (by rw [List.length_map]; exact Nat.le_refl _)] at hs1
        have E := Lib.hid (show sizeP ts js = T0 from by unfold sizeP; rw [HTS.out, hs1]; exact HT0.out)
        clear hs1
        go_wp2_with fail
        go_ret
        exact ⟨by rw [E.out]; rfl, HYt.out⟩
      obtain ⟨ad, hA, Ar, Av, Ap, cr, cv, cp, hJi⟩ := HJ.out i hlt
      cases hA
      have hlt' : (i : Int) < (js.length : Int) := by omega
      have dl : decide ((i : Int) < (js.length : Int)) = true := decide_eq_true hlt'
      have hjs := HN.out _ (List.getElem_mem hlt)
      have HTK := Lib.hid (sum_take_succ (fs := js.map jobSz) (i := i) (by rw [List.length_map]; exact hlt))
      obtain ⟨j, hj⟩ : ∃ j, js[i] = j := ⟨_, rfl⟩
      rw [hj] at hJi hjs
      have hr16 := hjs.rules
      have hv256 := hjs.vars
      have hp256 := hjs.preds
      have hn1 := hjs.name.2
      have hn2 := hjs.run.2
      have hn3 := hjs.stage.2
      have hn4 := hjs.when_.2
      have hn5 := hjs.weight.2
      obtain ⟨L1, hL1⟩ : ∃ L, numL j.one.name = L := ⟨_, rfl⟩
      have hbL1 := numL_bound j.one.name
      rw [hL1] at hbL1
      have HL1 := Lib.hid (fun W' => num17q j.one.name L1 hL1 (by omega) W')
      obtain ⟨L2, hL2⟩ : ∃ L, numL j.one.run = L := ⟨_, rfl⟩
      have hbL2 := numL_bound j.one.run
      rw [hL2] at hbL2
      have HL2 := Lib.hid (fun W' => num17q j.one.run L2 hL2 (by omega) W')
      obtain ⟨L3, hL3⟩ : ∃ L, numL j.one.stage = L := ⟨_, rfl⟩
      have hbL3 := numL_bound j.one.stage
      rw [hL3] at hbL3
      have HL3 := Lib.hid (fun W' => num17q j.one.stage L3 hL3 (by omega) W')
      obtain ⟨L4, hL4⟩ : ∃ L, numL j.one.when_ = L := ⟨_, rfl⟩
      have hbL4 := numL_bound j.one.when_
      rw [hL4] at hbL4
      have HL4 := Lib.hid (fun W' => num17q j.one.when_ L4 hL4 (by omega) W')
      obtain ⟨L5, hL5⟩ : ∃ L, numL j.one.weight = L := ⟨_, rfl⟩
      have hbL5 := numL_bound j.one.weight
      rw [hL5] at hbL5
      have HL5 := Lib.hid (fun W' => num17q j.one.weight L5 hL5 (by omega) W')
      obtain ⟨L6, hL6⟩ : ∃ L, numL (j.rules.length : Int) = L := ⟨_, rfl⟩
      have hbL6 := numL_bound (j.rules.length : Int)
      rw [hL6] at hbL6
      have HL6 := Lib.hid (fun W' => num17q (j.rules.length : Int) L6 hL6 (by omega) W')
      obtain ⟨L7, hL7⟩ : ∃ L, numL (j.vars.length : Int) = L := ⟨_, rfl⟩
      have hbL7 := numL_bound (j.vars.length : Int)
      rw [hL7] at hbL7
      have HL7 := Lib.hid (fun W' => num17q (j.vars.length : Int) L7 hL7 (by omega) W')
      obtain ⟨L8, hL8⟩ : ∃ L, numL (j.preds.length : Int) = L := ⟨_, rfl⟩
      have hbL8 := numL_bound (j.preds.length : Int)
      rw [hL8] at hbL8
      have HL8 := Lib.hid (fun W' => num17q (j.preds.length : Int) L8 hL8 (by omega) W')
      obtain ⟨X1, hX1⟩ : ∃ s, T0 + L1 = s := ⟨_, rfl⟩
      have hwX1 : IntKind.i64.wrap (T0 + L1) = X1 := by rw [IntKind.wrap_i64]; omega
      obtain ⟨X2, hX2⟩ : ∃ s, X1 + L2 = s := ⟨_, rfl⟩
      have hwX2 : IntKind.i64.wrap (X1 + L2) = X2 := by rw [IntKind.wrap_i64]; omega
      obtain ⟨X3, hX3⟩ : ∃ s, X2 + L3 = s := ⟨_, rfl⟩
      have hwX3 : IntKind.i64.wrap (X2 + L3) = X3 := by rw [IntKind.wrap_i64]; omega
      obtain ⟨X4, hX4⟩ : ∃ s, X3 + L4 = s := ⟨_, rfl⟩
      have hwX4 : IntKind.i64.wrap (X3 + L4) = X4 := by rw [IntKind.wrap_i64]; omega
      obtain ⟨X5, hX5⟩ : ∃ s, X4 + L5 = s := ⟨_, rfl⟩
      have hwX5 : IntKind.i64.wrap (X4 + L5) = X5 := by rw [IntKind.wrap_i64]; omega
      obtain ⟨X6, hX6⟩ : ∃ s, X5 + 1 = s := ⟨_, rfl⟩
      have hwX6 : IntKind.i64.wrap (X5 + 1) = X6 := by rw [IntKind.wrap_i64]; omega
      obtain ⟨X7, hX7⟩ : ∃ s, X6 + L6 = s := ⟨_, rfl⟩
      have hwX7 : IntKind.i64.wrap (X6 + L6) = X7 := by rw [IntKind.wrap_i64]; omega
      obtain ⟨X8, hX8⟩ : ∃ s, X7 + L7 = s := ⟨_, rfl⟩
      have hwX8 : IntKind.i64.wrap (X7 + L7) = X8 := by rw [IntKind.wrap_i64]; omega
      obtain ⟨X9, hX9⟩ : ∃ s, X8 + L8 = s := ⟨_, rfl⟩
      have hwX9 : IntKind.i64.wrap (X8 + L8) = X9 := by rw [IntKind.wrap_i64]; omega
      have HX1 := Lib.hid hX1
      have HX2 := Lib.hid hX2
      have HX3 := Lib.hid hX3
      have HX4 := Lib.hid hX4
      have HX5 := Lib.hid hX5
      have HX6 := Lib.hid hX6
      have HX7 := Lib.hid hX7
      have HX8 := Lib.hid hX8
      have HX9 := Lib.hid hX9
      have HJOB := Lib.hid (show S0 + ((js.map jobSz).take (i + 1)).sum = X9 + (j.rules.map ruleSz).sum + (j.vars.map varSz).sum + (j.preds.map numL).sum from by
        rw [HTK.out, hs1, List.getElem_map, hj]; unfold jobSz; rw [sumL8, hL1, hL2, hL3, hL4, hL5, hL6, hL7, hL8]; show _ = _ + _ + _ + sumL j.preds; omega)
      have hX9b : 0 ≤ X9 ∧ X9 ≤ 319999999 := by omega
      have HI := Lib.hid hJi
      have HNJ := Lib.hid hjs
      have k0 := HYt.out.cell_some hJi.c0 (fun c => c)
      have k1 := HYt.out.cell_some hJi.c1 (fun c => c)
      have k2 := HYt.out.cell_some hJi.c2 (fun c => c)
      have k3 := HYt.out.cell_some hJi.c3 (fun c => c)
      have k4 := HYt.out.cell_some hJi.c4 (fun c => c)
      have k5 := HYt.out.cell_some hJi.c5 (fun c => c)
      have k6 := HYt.out.cell_some hJi.c6 (fun c => c)
      have k7 := HYt.out.cell_some hJi.c7 (fun c => c)
      have k8 := HYt.out.cell_some hJi.c8 (fun c => c)
      clear hs1 hj HTK hT0 hsb hJi hjs hL1 hL2 hL3 hL4 hL5 hL6 hL7 hL8 hbL1 hbL2 hbL3 hbL4 hbL5 hbL6 hbL7 hbL8 hX1 hX2 hX3 hX4 hX5 hX6 hX7 hX8 hX9 hn1 hn2 hn3 hn4 hn5 hS0b
      go_wp2_with fail
      obtain ⟨W1, hW1⟩ : ∃ W, wx.alloc (.cells #[.int .i64 j.one.name, .int .i64 j.one.run, .int .i64 j.one.stage, .int .i64 j.one.when_, .bool j.allow, .int .i64 j.one.weight, .slice Ar j.rules.length cr, .slice Av j.vars.length cv, .slice Ap j.preds.length cp] 52) = W := ⟨_, rfl⟩
      rw [hW1]
      obtain ⟨gj, hgj⟩ : ∃ g, wx.heap.size = g := ⟨_, rfl⟩
      rw [hgj]
      have HX1 := Lib.hid (show But No wx W1 from by rw [← hW1]; exact (But.refl No wx).alloc _)
      have HBJ := Lib.hid (show W1.heap[gj]? = some (.cells #[.int .i64 j.one.name, .int .i64 j.one.run, .int .i64 j.one.stage, .int .i64 j.one.when_, .bool j.allow, .int .i64 j.one.weight, .slice Ar j.rules.length cr, .slice Av j.vars.length cv, .slice Ap j.preds.length cp] 52 (0, 0)) from by rw [← hW1, ← hgj]; exact heap_alloc_new wx _)
      have HGJ := Lib.hid (show gj < W1.heap.size from by rw [← hW1, ← hgj]; simp)
      have j0 : W1.cell? ⟨gj, 0, none⟩ = some (.int .i64 j.one.name) := blkcell HBJ.out 0 (by simp)
      have j1 : W1.cell? ⟨gj, 1, none⟩ = some (.int .i64 j.one.run) := blkcell HBJ.out 1 (by simp)
      have j2 : W1.cell? ⟨gj, 2, none⟩ = some (.int .i64 j.one.stage) := blkcell HBJ.out 2 (by simp)
      have j3 : W1.cell? ⟨gj, 3, none⟩ = some (.int .i64 j.one.when_) := blkcell HBJ.out 3 (by simp)
      have j5 : W1.cell? ⟨gj, 5, none⟩ = some (.int .i64 j.one.weight) := blkcell HBJ.out 5 (by simp)
      have j6 : W1.cell? ⟨gj, 6, none⟩ = some (.slice Ar j.rules.length cr) := blkcell HBJ.out 6 (by simp)
      have j7 : W1.cell? ⟨gj, 7, none⟩ = some (.slice Av j.vars.length cv) := blkcell HBJ.out 7 (by simp)
      have j8 : W1.cell? ⟨gj, 8, none⟩ = some (.slice Ap j.preds.length cp) := blkcell HBJ.out 8 (by simp)
      have HZt := Lib.hid (HYt.out.trans HX1.out)
      have HZr := Lib.hid (HYr.out.trans HX1.out)
      clear k0 k1 k2 k3 k4 k5 k6 k7 k8 hW1 hgj q0 q1
      refine wp_region_held_drew (S := (fun w' => But No W1 w')) (by kernel_rfl) ((But.refl No W1).drewN 1) (fun hS => ?_)
      refine takeE 0 (some 56) rfl rfl (fun w e1 => by go_simp <;> (with_reducible rfl)) hS ?_
      simp only [putS]
      refine takeE 1 (some 57) rfl rfl (fun w e1 => by go_simp <;> (with_reducible rfl)) hS ?_
      simp only [putS]
      refine takeE 2 (some 58) rfl rfl (fun w e1 => by have z_j0 := e1.cell_some j0 (fun c => c); go_simp <;> (with_reducible rfl)) hS ?_
      simp only [putS]
      refine takeE 5 (some 61) rfl rfl (fun w e1 => by go_simp <;> (with_reducible rfl)) hS ?_
      simp only [putS]
      refine takeE 6 (some 62) rfl rfl (fun w e1 => by have z_j1 := e1.cell_some j1 (fun c => c); go_simp <;> (with_reducible rfl)) hS ?_
      simp only [putS]
      refine takeE 9 (some 65) rfl rfl (fun w e1 => by go_simp <;> (with_reducible rfl)) hS ?_
      simp only [putS]
      refine takeE 10 (some 66) rfl rfl (fun w e1 => by have z_j2 := e1.cell_some j2 (fun c => c); go_simp <;> (with_reducible rfl)) hS ?_
      simp only [putS]
      refine takeE 13 (some 69) rfl rfl (fun w e1 => by go_simp <;> (with_reducible rfl)) hS ?_
      simp only [putS]
      refine takeE 14 (some 70) rfl rfl (fun w e1 => by have z_j3 := e1.cell_some j3 (fun c => c); go_simp <;> (with_reducible rfl)) hS ?_
      simp only [putS]
      refine takeE 17 (some 73) rfl rfl (fun w e1 => by go_simp <;> (with_reducible rfl)) hS ?_
      simp only [putS]
      refine takeE 18 (some 74) rfl rfl (fun w e1 => by have z_j5 := e1.cell_some j5 (fun c => c); go_simp <;> (with_reducible rfl)) hS ?_
      simp only [putS]
      refine takeE 22 (some 78) rfl rfl (fun w e1 => by go_simp <;> (with_reducible rfl)) hS ?_
      simp only [putS]
      refine takeE 23 (some 79) rfl rfl (fun w e1 => by have z_j6 := e1.cell_some j6 (fun c => c); go_simp <;> (with_reducible rfl)) hS ?_
      simp only [putS]
      refine takeE 24 (some 80) rfl rfl (fun w e1 => by go_simp <;> (with_reducible rfl)) hS ?_
      simp only [putS]
      refine takeE 27 (some 83) rfl rfl (fun w e1 => by go_simp <;> (with_reducible rfl)) hS ?_
      simp only [putS]
      refine takeE 28 (some 84) rfl rfl (fun w e1 => by have z_j7 := e1.cell_some j7 (fun c => c); go_simp <;> (with_reducible rfl)) hS ?_
      simp only [putS]
      refine takeE 29 (some 85) rfl rfl (fun w e1 => by go_simp <;> (with_reducible rfl)) hS ?_
      simp only [putS]
      refine takeE 32 (some 88) rfl rfl (fun w e1 => by go_simp <;> (with_reducible rfl)) hS ?_
      simp only [putS]
      refine takeE 33 (some 89) rfl rfl (fun w e1 => by have z_j8 := e1.cell_some j8 (fun c => c); go_simp <;> (with_reducible rfl)) hS ?_
      simp only [putS]
      refine takeE 34 (some 90) rfl rfl (fun w e1 => by go_simp <;> (with_reducible rfl)) hS ?_
      simp only [putS]
      refine wpAnyH_ready (rs := [3]) (by kernel_rfl) (by simp) (AllReadyH.cons rfl (fun K3 hK3 => ?_) AllReadyH.nil)
      rw [if_pos (by kernel_rfl)]
      go_simp
      go_at_call 69
      refine (HL1.out _).mono ?_
      rintro e w8 ⟨rfl, rfl⟩
      simp only []
      refine hK3.out _ _ hS (fun hS => ?_)
      try simp only [putS, List.getElem_toArray, List.getElem_cons_zero, List.getElem_cons_succ]
      refine takeE 4 (some 60) rfl rfl (fun w e1 => by go_simp <;> (with_reducible rfl)) hS ?_
      simp only [putS]
      refine wpAnyH_ready (rs := [7]) (by kernel_rfl) (by simp) (AllReadyH.cons rfl (fun K7 hK7 => ?_) AllReadyH.nil)
      rw [if_pos (by kernel_rfl)]
      go_simp
      go_at_call 69
      refine (HL2.out _).mono ?_
      rintro e w8 ⟨rfl, rfl⟩
      simp only []
      refine hK7.out _ _ hS (fun hS => ?_)
      try simp only [putS, List.getElem_toArray, List.getElem_cons_zero, List.getElem_cons_succ]
      refine takeE 8 (some 64) rfl rfl (fun w e1 => by go_simp <;> (with_reducible rfl)) hS ?_
      simp only [putS]
      refine wpAnyH_ready (rs := [11]) (by kernel_rfl) (by simp) (AllReadyH.cons rfl (fun K11 hK11 => ?_) AllReadyH.nil)
      rw [if_pos (by kernel_rfl)]
      go_simp
      go_at_call 69
      refine (HL3.out _).mono ?_
      rintro e w8 ⟨rfl, rfl⟩
      simp only []
      refine hK11.out _ _ hS (fun hS => ?_)
      try simp only [putS, List.getElem_toArray, List.getElem_cons_zero, List.getElem_cons_succ]
      refine takeE 12 (some 68) rfl rfl (fun w e1 => by go_simp <;> (with_reducible rfl)) hS ?_
      simp only [putS]
      refine wpAnyH_ready (rs := [15]) (by kernel_rfl) (by simp) (AllReadyH.cons rfl (fun K15 hK15 => ?_) AllReadyH.nil)
      rw [if_pos (by kernel_rfl)]
      go_simp
      go_at_call 69
      refine (HL4.out _).mono ?_
      rintro e w8 ⟨rfl, rfl⟩
      simp only []
      refine hK15.out _ _ hS (fun hS => ?_)
      try simp only [putS, List.getElem_toArray, List.getElem_cons_zero, List.getElem_cons_succ]
      refine takeE 16 (some 72) rfl rfl (fun w e1 => by go_simp <;> (with_reducible rfl)) hS ?_
      simp only [putS]
      refine wpAnyH_ready (rs := [19]) (by kernel_rfl) (by simp) (AllReadyH.cons rfl (fun K19 hK19 => ?_) AllReadyH.nil)
      rw [if_pos (by kernel_rfl)]
      go_simp
      go_at_call 69
      refine (HL5.out _).mono ?_
      rintro e w8 ⟨rfl, rfl⟩
      simp only []
      refine hK19.out _ _ hS (fun hS => ?_)
      try simp only [putS, List.getElem_toArray, List.getElem_cons_zero, List.getElem_cons_succ]
      refine takeE 20 (some 76) rfl rfl (fun w e1 => by go_simp <;> (with_reducible rfl)) hS ?_
      simp only [putS]
      refine takeE 21 (some 77) rfl rfl (fun w e1 => by go_simp <;> (with_reducible rfl)) hS ?_
      simp only [putS]
      refine wpAnyH_ready (rs := [25]) (by kernel_rfl) (by simp) (AllReadyH.cons rfl (fun K25 hK25 => ?_) AllReadyH.nil)
      rw [if_pos (by kernel_rfl)]
      go_simp
      go_at_call 69
      refine (HL6.out _).mono ?_
      rintro e w8 ⟨rfl, rfl⟩
      simp only []
      refine hK25.out _ _ hS (fun hS => ?_)
      try simp only [putS, List.getElem_toArray, List.getElem_cons_zero, List.getElem_cons_succ]
      refine takeE 26 (some 82) rfl rfl (fun w e1 => by go_simp <;> (with_reducible rfl)) hS ?_
      simp only [putS]
      refine wpAnyH_ready (rs := [30]) (by kernel_rfl) (by simp) (AllReadyH.cons rfl (fun K30 hK30 => ?_) AllReadyH.nil)
      rw [if_pos (by kernel_rfl)]
      go_simp
      go_at_call 69
      refine (HL7.out _).mono ?_
      rintro e w8 ⟨rfl, rfl⟩
      simp only []
      refine hK30.out _ _ hS (fun hS => ?_)
      try simp only [putS, List.getElem_toArray, List.getElem_cons_zero, List.getElem_cons_succ]
      refine takeE 31 (some 87) rfl rfl (fun w e1 => by go_simp <;> (with_reducible rfl)) hS ?_
      simp only [putS]
      refine wpAnyH_ready (rs := [35]) (by kernel_rfl) (by simp) (AllReadyH.cons rfl (fun K35 hK35 => ?_) AllReadyH.nil)
      rw [if_pos (by kernel_rfl)]
      go_simp
      go_at_call 69
      refine (HL8.out _).mono ?_
      rintro e w8 ⟨rfl, rfl⟩
      simp only []
      refine hK35.out _ _ hS (fun hS => ?_)
      try simp only [putS, List.getElem_toArray, List.getElem_cons_zero, List.getElem_cons_succ]
      refine takeE 36 (some 92) rfl rfl (fun w e1 => by go_simp <;> (with_reducible rfl)) hS ?_
      simp only [putS]
      refine takeE 37 (some 3) rfl rfl (fun w e1 => by go_simp <;> (with_reducible rfl)) hS ?_
      simp only [putS]
      refine wpAnyH_done (by kernel_rfl) ?_ _
      have HSJ := Lib.hid hS
      clear j0 j1 j2 j3 j5 j6 j7 j8 hS hwX1 hwX2 hwX3 hwX4 hwX5 hwX6 hwX7 hwX8 hwX9
      go_wp2_with fail
      go_loopg [3, 7] j.rules.length (fun gk v3 vi wy => SumAt W1 X9 j.rules.length (j.rules.map ruleSz) gk v3 vi wy)
      case atStart => exact ⟨0, rfl, Nat.zero_le _, rfl, HSJ.out, by simp⟩
      case round =>
        rename World => wy
        obtain ⟨k, hgk, hk, rfl, hb, rfl⟩ := hrel
        have HGKr := Lib.hid hgk
        have HR1 := Lib.hid hb
        have HRt := Lib.hid (HZt.out.trans hb)
        have hsb := rulesSz_bnd hr16 HNJ.out.codes k
        obtain ⟨s2, hs2⟩ : ∃ s, ((j.rules.map ruleSz).take k).sum = s := ⟨_, rfl⟩
        rw [hs2] at hsb ⊢
        obtain ⟨U0, hU0⟩ : ∃ s, X9 + s2 = s := ⟨_, rfl⟩
        rw [hU0]
        have HU0 := Lib.hid hU0
        clear hgk hb
        have hbj_ := (HR1.out.block gj (by have := HGJ.out; omega) (fun c => c)).trans HBJ.out
        have j6 : wy.cell? ⟨gj, 6, none⟩ = some (.slice _ j.rules.length cr) := blkcell hbj_ 6 (by simp)
        clear hbj_
        by_cases hltr : k < j.rules.length
        case pos =>
          obtain ⟨adr, hAr, Ac, cc, n1, n2, hPc⟩ := HI.out.rules k hltr
          cases hAr
          have hltr' : (k : Int) < (j.rules.length : Int) := by omega
          have dlr : decide ((k : Int) < (j.rules.length : Int)) = true := decide_eq_true hltr'
          have hin := (HNJ.out.whens _ (List.getElem_mem hltr)).2
          have hcl := HNJ.out.codes _ (List.getElem_mem hltr)
          have hst := HNJ.out.steps _ (List.getElem_mem hltr)
          have HTR := Lib.hid (sum_take_succ (fs := j.rules.map ruleSz) (i := k) (by rw [List.length_map]; exact hltr))
          obtain ⟨⟨code, wh⟩, hv⟩ : ∃ v, j.rules[k] = v := ⟨_, rfl⟩
          rw [hv] at n1 n2 hin hPc hcl hst
          dsimp only at n1 n2 hin hPc hcl hst
          have n1' := HRt.out.cell_some n1 (fun c => c)
          have n2' := HRt.out.cell_some n2 (fun c => c)
          obtain ⟨La, hLa⟩ : ∃ L, numL wh = L := ⟨_, rfl⟩
          have hbLa := numL_bound wh
          rw [hLa] at hbLa
          have HLa := Lib.hid (fun W' => num17q wh La hLa hin W')
          obtain ⟨Lb, hLb⟩ : ∃ L, numL (code.length : Int) = L := ⟨_, rfl⟩
          have hbLb := numL_bound (code.length : Int)
          rw [hLb] at hbLb
          have HLb := Lib.hid (fun W' => num17q (code.length : Int) Lb hLb (by omega) W')
          obtain ⟨Y1, hY1⟩ : ∃ s, U0 + La = s := ⟨_, rfl⟩
          have hwY1 : IntKind.i64.wrap (U0 + La) = Y1 := by rw [IntKind.wrap_i64]; omega
          obtain ⟨Y2, hY2⟩ : ∃ s, Y1 + Lb = s := ⟨_, rfl⟩
          have hwY2 : IntKind.i64.wrap (Y1 + Lb) = Y2 := by rw [IntKind.wrap_i64]; omega
          have HY1 := Lib.hid hY1
          have HY2 := Lib.hid hY2
          have HRUL := Lib.hid (show X9 + ((j.rules.map ruleSz).take (k + 1)).sum = Y2 + (code.map stepSz1).sum from by
            rw [HTR.out, hs2, List.getElem_map, hv, stepSz1_sum]; unfold ruleSz; dsimp only; rw [sumL2, hLa, hLb]; omega)
          have hY2b : 0 ≤ Y2 ∧ Y2 ≤ 329999999 := by omega
          have HPC := Lib.hid hPc
          have HST := Lib.hid hst
          clear hv hs2 HTR hLa hLb hbLa hbLb hY1 hY2 n1 n2 hin hPc hst hsb hU0
          go_wp2_with fail
          refine wp_region_held_drew (S := (fun w' => But No wy w')) (by kernel_rfl) ((But.refl No wy).drewN 1) (fun hS => ?_)
          refine takeE 0 (some 100) rfl rfl (fun w e1 => by go_simp <;> (with_reducible rfl)) hS ?_
          simp only [putS]
          refine takeE 1 (some 101) rfl rfl (fun w e1 => by go_simp <;> (with_reducible rfl)) hS ?_
          simp only [putS]
          refine takeE 2 (some 102) rfl rfl (fun w e1 => by have z_j6 := e1.cell_some j6 (fun c => c); go_simp <;> (with_reducible rfl)) hS ?_
          simp only [putS]
          refine takeE 3 (some 103) rfl rfl (fun w e1 => by go_simp <;> (with_reducible rfl)) hS ?_
          simp only [putS]
          refine takeE 4 (some 104) rfl rfl (fun w e1 => by go_simp <;> (with_reducible rfl)) hS ?_
          simp only [putS]
          refine takeE 5 (some 105) rfl rfl (fun w e1 => by go_simp <;> (with_reducible rfl)) hS ?_
          simp only [putS]
          refine takeE 6 (some 106) rfl rfl (fun w e1 => by have z_n2' := e1.cell_some n2' (fun c => c); go_simp <;> (with_reducible rfl)) hS ?_
          simp only [putS]
          refine takeE 9 (some 109) rfl rfl (fun w e1 => by go_simp <;> (with_reducible rfl)) hS ?_
          simp only [putS]
          refine takeE 10 (some 110) rfl rfl (fun w e1 => by have z_j6 := e1.cell_some j6 (fun c => c); go_simp <;> (with_reducible rfl)) hS ?_
          simp only [putS]
          refine takeE 11 (some 111) rfl rfl (fun w e1 => by go_simp <;> (with_reducible rfl)) hS ?_
          simp only [putS]
          refine takeE 12 (some 112) rfl rfl (fun w e1 => by go_simp <;> (with_reducible rfl)) hS ?_
          simp only [putS]
          refine takeE 13 (some 113) rfl rfl (fun w e1 => by go_simp <;> (with_reducible rfl)) hS ?_
          simp only [putS]
          refine takeE 14 (some 114) rfl rfl (fun w e1 => by have z_n1' := e1.cell_some n1' (fun c => c); go_simp <;> (with_reducible rfl)) hS ?_
          simp only [putS]
          refine takeE 15 (some 115) rfl rfl (fun w e1 => by go_simp <;> (with_reducible rfl)) hS ?_
          simp only [putS]
          refine wpAnyH_ready (rs := [7]) (by kernel_rfl) (by simp) (AllReadyH.cons rfl (fun K7 hK7 => ?_) AllReadyH.nil)
          rw [if_pos (by kernel_rfl)]
          go_simp
          go_at_call 69
          refine (HLa.out _).mono ?_
          rintro e w8 ⟨rfl, rfl⟩
          simp only []
          refine hK7.out _ _ hS (fun hS => ?_)
          try simp only [putS, List.getElem_toArray, List.getElem_cons_zero, List.getElem_cons_succ]
          refine takeE 8 (some 108) rfl rfl (fun w e1 => by go_simp <;> (with_reducible rfl)) hS ?_
          simp only [putS]
          refine wpAnyH_ready (rs := [16]) (by kernel_rfl) (by simp) (AllReadyH.cons rfl (fun K16 hK16 => ?_) AllReadyH.nil)
          rw [if_pos (by kernel_rfl)]
          go_simp
          go_at_call 69
          refine (HLb.out _).mono ?_
          rintro e w8 ⟨rfl, rfl⟩
          simp only []
          refine hK16.out _ _ hS (fun hS => ?_)
          try simp only [putS, List.getElem_toArray, List.getElem_cons_zero, List.getElem_cons_succ]
          refine takeE 17 (some 117) rfl rfl (fun w e1 => by go_simp <;> (with_reducible rfl)) hS ?_
          simp only [putS]
          refine takeE 18 (some 3) rfl rfl (fun w e1 => by go_simp <;> (with_reducible rfl)) hS ?_
          simp only [putS]
          refine wpAnyH_done (by kernel_rfl) ?_ _
          have HSR := Lib.hid hS
          clear hS hwY1 hwY2 j6
          go_wp2_with fail
          go_loopg [3, 8] code.length (fun gk v3 vi wz => SumAt wy Y2 code.length (code.map stepSz1) gk v3 vi wz)
          case atStart => exact ⟨0, rfl, Nat.zero_le _, rfl, HSR.out, by simp⟩
          case round =>
            rename World => wz
            obtain ⟨n, hgk, hk, rfl, hb, rfl⟩ := hrel
            have HGKs := Lib.hid hgk
            have HQy := Lib.hid hb
            have HQ1 := Lib.hid (HR1.out.trans hb)
            have HQt := Lib.hid (HRt.out.trans hb)
            have hsb := stepsSz1_bnd hcl n
            obtain ⟨s3, hs3⟩ : ∃ s, ((code.map stepSz1).take n).sum = s := ⟨_, rfl⟩
            rw [hs3] at hsb ⊢
            obtain ⟨V0, hV0⟩ : ∃ s, Y2 + s3 = s := ⟨_, rfl⟩
            rw [hV0]
            have HV0 := Lib.hid hV0
            have m1 := hb.cell_some n1' (fun c => c)
            clear hgk hb
            have hbj_ := (HQ1.out.block gj (by have := HGJ.out; omega) (fun c => c)).trans HBJ.out
            have j6 : wz.cell? ⟨gj, 6, none⟩ = some (.slice _ j.rules.length cr) := blkcell hbj_ 6 (by simp)
            clear hbj_
            by_cases hlts : n < code.length
            case pos =>
              obtain ⟨adp, hAp, k1, k2⟩ := HPC.out n hlts
              cases hAp
              have hlts' : (n : Int) < (code.length : Int) := by omega
              have dls : decide ((n : Int) < (code.length : Int)) = true := decide_eq_true hlts'
              have hin := (HST.out _ (List.getElem_mem hlts)).2.2
              have HTP := Lib.hid (sum_take_succ (fs := code.map stepSz1) (i := n) (by rw [List.length_map]; exact hlts))
              obtain ⟨⟨kk, xx⟩, hx⟩ : ∃ v, code[n] = v := ⟨_, rfl⟩
              rw [hx] at k1 k2 hin
              dsimp only at k1 k2 hin
              have k1' := HQt.out.cell_some k1 (fun c => c)
              have k2' := HQt.out.cell_some k2 (fun c => c)
              obtain ⟨bs, hbs⟩ : ∃ b, saysB kk = b := ⟨_, rfl⟩
              have HBS := Lib.hid hbs
              obtain ⟨L, hL⟩ : ∃ L, numL xx = L := ⟨_, rfl⟩
              have hbL := numL_bound xx
              rw [hL] at hbL
              have HL := Lib.hid (fun W' => num17q xx L hL hin W')
              obtain ⟨Z1, hZ1⟩ : ∃ s, V0 + 1 = s := ⟨_, rfl⟩
              have hwZ1 : IntKind.i64.wrap (V0 + 1) = Z1 := by rw [IntKind.wrap_i64]; omega
              have HZ1 := Lib.hid hZ1
              obtain ⟨Q1, hQ1⟩ : ∃ s, Z1 + L = s := ⟨_, rfl⟩
              have hwQ1 : IntKind.i64.wrap (Z1 + L) = Q1 := by rw [IntKind.wrap_i64]; omega
              have HQ1q := Lib.hid hQ1
              have HSTP := Lib.hid (show Y2 + ((code.map stepSz1).take (n + 1)).sum = Z1 + (if bs = true then L else 0) from by
                rw [HTP.out, hs3, List.getElem_map, hx]; unfold stepSz1 stepSz; dsimp only; rw [hbs, sumL1, hL]; omega)
              clear hx hs3 HTP hL hbL hZ1 hQ1 k1 k2 hin hsb hV0 hbs
              cases bs with
              | false =>
                have E := Lib.hid (show Z1 = Y2 + ((code.map stepSz1).take (n + 1)).sum from by have h := HSTP.out; rw [if_neg Bool.false_ne_true] at h; omega)
                go_wp2_with (go_at_call 42; refine (named0q kk false HBS.out _).mono ?_; rintro e w2 ⟨rfl, rfl⟩)
                go_roundg (code.length - (n + 1))
                case measure => rw [HGKs.out]; omega
                case rel => exact ⟨n + 1, rfl, by omega, by go_num, HQy.out, by rw [E.out]⟩
              | true =>
                have E := Lib.hid (show Q1 = Y2 + ((code.map stepSz1).take (n + 1)).sum from by have h := HSTP.out; have h2 := HQ1q.out; rw [if_pos rfl] at h; omega)
                go_wp2_with (first | (go_at_call 42; refine (named0q kk true HBS.out _).mono ?_; rintro e w2 ⟨rfl, rfl⟩) | (go_at_call 69; refine (HL.out _).mono ?_; rintro e w8 ⟨rfl, rfl⟩))
                go_roundg (code.length - (n + 1))
                case measure => rw [HGKs.out]; omega
                case rel => exact ⟨n + 1, rfl, by omega, by go_num, HQy.out, by rw [E.out]⟩
            obtain rfl : n = code.length := by omega
            have hlts' : ¬ (code.length : Int) < (code.length : Int) := by omega
            rw [List.take_of_length_le (by rw [List.length_map]; exact Nat.le_refl _)] at hs3
            have E := Lib.hid (show V0 = X9 + ((j.rules.map ruleSz).take (k + 1)).sum from by rw [HRUL.out, hs3]; exact HV0.out.symm)
            clear hs3
            go_wp2_with fail
            go_roundg (j.rules.length - (k + 1))
            case measure => rw [HGKr.out]; omega
            case rel => exact ⟨k + 1, rfl, by omega, by go_num, HQ1.out, by rw [E.out]⟩
        obtain rfl : k = j.rules.length := by omega
        have hltr' : ¬ (j.rules.length : Int) < (j.rules.length : Int) := by omega
        rw [List.take_of_length_le (by rw [List.length_map]; exact Nat.le_refl _)] at hs2
        have HJ2 := Lib.hid (show S0 + ((js.map jobSz).take (i + 1)).sum = U0 + (j.vars.map varSz).sum + (j.preds.map numL).sum from by rw [HJOB.out, hs2, HU0.out])
        have hU0b : 0 ≤ U0 ∧ U0 ≤ 329999999 := by omega
        clear hs2 hsb hU0
        go_wp2_with fail
        clear j6
        go_loopg [3, 9] j.vars.length (fun gk v3 vi wz => SumAt wy U0 j.vars.length (j.vars.map varSz) gk v3 vi wz)
        case atStart => exact ⟨0, rfl, Nat.zero_le _, rfl, But.refl _ _, by simp⟩
        case round =>
          rename World => wz
          obtain ⟨k, hgk, hk, rfl, hb, rfl⟩ := hrel
          have HGKv := Lib.hid hgk
          have HVy := Lib.hid hb
          have HV1 := Lib.hid (HR1.out.trans hb)
          have HVt := Lib.hid (HRt.out.trans hb)
          have hsb := varsSz_bnd hv256 k
          obtain ⟨s3, hs3⟩ : ∃ s, ((j.vars.map varSz).take k).sum = s := ⟨_, rfl⟩
          rw [hs3] at hsb ⊢
          obtain ⟨V0, hV0⟩ : ∃ s, U0 + s3 = s := ⟨_, rfl⟩
          rw [hV0]
          have HV0 := Lib.hid hV0
          clear hgk hb
          have hbj_ := (HV1.out.block gj (by have := HGJ.out; omega) (fun c => c)).trans HBJ.out
          have j7 : wz.cell? ⟨gj, 7, none⟩ = some (.slice _ j.vars.length cv) := blkcell hbj_ 7 (by simp)
          clear hbj_
          by_cases hltv : k < j.vars.length
          case pos =>
            obtain ⟨adv, hAv, n1, n2⟩ := HI.out.vars k hltv
            cases hAv
            have hltv' : (k : Int) < (j.vars.length : Int) := by omega
            have dlv : decide ((k : Int) < (j.vars.length : Int)) = true := decide_eq_true hltv'
            have hin := HNJ.out.names _ (List.getElem_mem hltv)
            have HTV := Lib.hid (sum_take_succ (fs := j.vars.map varSz) (i := k) (by rw [List.length_map]; exact hltv))
            obtain ⟨⟨vn, vl⟩, hv⟩ : ∃ v, j.vars[k] = v := ⟨_, rfl⟩
            rw [hv] at n1 n2 hin
            dsimp only at n1 n2 hin
            have n1' := HVt.out.cell_some n1 (fun c => c)
            have n2' := HVt.out.cell_some n2 (fun c => c)
            have hin1 := hin.1.2
            have hin2 := hin.2.2
            obtain ⟨La, hLa⟩ : ∃ L, numL vn = L := ⟨_, rfl⟩
            have hbLa := numL_bound vn
            rw [hLa] at hbLa
            have HLa := Lib.hid (fun W' => num17q vn La hLa hin1 W')
            obtain ⟨Lb, hLb⟩ : ∃ L, numL vl = L := ⟨_, rfl⟩
            have hbLb := numL_bound vl
            rw [hLb] at hbLb
            have HLb := Lib.hid (fun W' => num17q vl Lb hLb hin2 W')
            obtain ⟨Y1, hY1⟩ : ∃ s, V0 + La = s := ⟨_, rfl⟩
            have hwY1 : IntKind.i64.wrap (V0 + La) = Y1 := by rw [IntKind.wrap_i64]; omega
            obtain ⟨Y2, hY2⟩ : ∃ s, Y1 + Lb = s := ⟨_, rfl⟩
            have hwY2 : IntKind.i64.wrap (Y1 + Lb) = Y2 := by rw [IntKind.wrap_i64]; omega
            have HY1 := Lib.hid hY1
            have HY2 := Lib.hid hY2
            have E := Lib.hid (show Y2 = U0 + ((j.vars.map varSz).take (k + 1)).sum from by
              rw [HTV.out, hs3, List.getElem_map, hv]; unfold varSz; dsimp only; rw [sumL2, hLa, hLb]; omega)
            clear hv hs3 HTV hLa hLb hbLa hbLb hY1 hY2 n1 n2 hin hin1 hin2 hsb hV0
            go_wp2_with fail
            refine wp_region_held_drew (S := (fun w' => But No wz w')) (by kernel_rfl) ((But.refl No wz).drewN 1) (fun hS => ?_)
            refine takeE 0 (some 162) rfl rfl (fun w e1 => by go_simp <;> (with_reducible rfl)) hS ?_
            simp only [putS]
            refine takeE 1 (some 163) rfl rfl (fun w e1 => by go_simp <;> (with_reducible rfl)) hS ?_
            simp only [putS]
            refine takeE 2 (some 164) rfl rfl (fun w e1 => by have z_j7 := e1.cell_some j7 (fun c => c); go_simp <;> (with_reducible rfl)) hS ?_
            simp only [putS]
            refine takeE 3 (some 165) rfl rfl (fun w e1 => by go_simp <;> (with_reducible rfl)) hS ?_
            simp only [putS]
            refine takeE 4 (some 166) rfl rfl (fun w e1 => by go_simp <;> (with_reducible rfl)) hS ?_
            simp only [putS]
            refine takeE 5 (some 167) rfl rfl (fun w e1 => by go_simp <;> (with_reducible rfl)) hS ?_
            simp only [putS]
            refine takeE 6 (some 168) rfl rfl (fun w e1 => by have z_n1' := e1.cell_some n1' (fun c => c); go_simp <;> (with_reducible rfl)) hS ?_
            simp only [putS]
            refine takeE 9 (some 171) rfl rfl (fun w e1 => by go_simp <;> (with_reducible rfl)) hS ?_
            simp only [putS]
            refine takeE 10 (some 172) rfl rfl (fun w e1 => by have z_j7 := e1.cell_some j7 (fun c => c); go_simp <;> (with_reducible rfl)) hS ?_
            simp only [putS]
            refine takeE 11 (some 173) rfl rfl (fun w e1 => by go_simp <;> (with_reducible rfl)) hS ?_
            simp only [putS]
            refine takeE 12 (some 174) rfl rfl (fun w e1 => by go_simp <;> (with_reducible rfl)) hS ?_
            simp only [putS]
            refine takeE 13 (some 175) rfl rfl (fun w e1 => by go_simp <;> (with_reducible rfl)) hS ?_
            simp only [putS]
            refine takeE 14 (some 176) rfl rfl (fun w e1 => by have z_n2' := e1.cell_some n2' (fun c => c); go_simp <;> (with_reducible rfl)) hS ?_
            simp only [putS]
            refine wpAnyH_ready (rs := [7]) (by kernel_rfl) (by simp) (AllReadyH.cons rfl (fun K7 hK7 => ?_) AllReadyH.nil)
            rw [if_pos (by kernel_rfl)]
            go_simp
            go_at_call 69
            refine (HLa.out _).mono ?_
            rintro e w8 ⟨rfl, rfl⟩
            simp only []
            refine hK7.out _ _ hS (fun hS => ?_)
            try simp only [putS, List.getElem_toArray, List.getElem_cons_zero, List.getElem_cons_succ]
            refine takeE 8 (some 170) rfl rfl (fun w e1 => by go_simp <;> (with_reducible rfl)) hS ?_
            simp only [putS]
            refine wpAnyH_ready (rs := [15]) (by kernel_rfl) (by simp) (AllReadyH.cons rfl (fun K15 hK15 => ?_) AllReadyH.nil)
            rw [if_pos (by kernel_rfl)]
            go_simp
            go_at_call 69
            refine (HLb.out _).mono ?_
            rintro e w8 ⟨rfl, rfl⟩
            simp only []
            refine hK15.out _ _ hS (fun hS => ?_)
            try simp only [putS, List.getElem_toArray, List.getElem_cons_zero, List.getElem_cons_succ]
            refine takeE 16 (some 178) rfl rfl (fun w e1 => by go_simp <;> (with_reducible rfl)) hS ?_
            simp only [putS]
            refine takeE 17 (some 3) rfl rfl (fun w e1 => by go_simp <;> (with_reducible rfl)) hS ?_
            simp only [putS]
            refine wpAnyH_done (by kernel_rfl) ?_ _
            go_wp2_with fail
            go_roundg (j.vars.length - (k + 1))
            case measure => rw [HGKv.out]; omega
            case rel => exact ⟨k + 1, rfl, by omega, by go_num, HVy.out.trans hS, by rw [E.out]⟩
          obtain rfl : k = j.vars.length := by omega
          have hltv' : ¬ (j.vars.length : Int) < (j.vars.length : Int) := by omega
          rw [List.take_of_length_le (by rw [List.length_map]; exact Nat.le_refl _)] at hs3
          have HJ3 := Lib.hid (show S0 + ((js.map jobSz).take (i + 1)).sum = V0 + (j.preds.map numL).sum from by rw [HJ2.out, hs3, HV0.out])
          have hV0b : 0 ≤ V0 ∧ V0 ≤ 339999999 := by omega
          clear hs3 hsb hV0
          go_wp2_with fail
          clear j7
          go_loopg [3, 10] j.preds.length (fun gk v3 vi wu => SumAt wz V0 j.preds.length (j.preds.map numL) gk v3 vi wu)
          case atStart => exact ⟨0, rfl, Nat.zero_le _, rfl, But.refl _ _, by simp⟩
          case round =>
            rename World => wu
            obtain ⟨k, hgk, hk, rfl, hb, rfl⟩ := hrel
            have HGKp := Lib.hid hgk
            have HPz := Lib.hid hb
            have HP1 := Lib.hid (HV1.out.trans hb)
            have HPt := Lib.hid (HVt.out.trans hb)
            have hsb := numsL_bnd hp256 k
            obtain ⟨s4, hs4⟩ : ∃ s, ((j.preds.map numL).take k).sum = s := ⟨_, rfl⟩
            rw [hs4] at hsb ⊢
            obtain ⟨A0, hA0⟩ : ∃ s, V0 + s4 = s := ⟨_, rfl⟩
            rw [hA0]
            have HA0 := Lib.hid hA0
            clear hgk hb
            have hbj_ := (HP1.out.block gj (by have := HGJ.out; omega) (fun c => c)).trans HBJ.out
            have j8 : wu.cell? ⟨gj, 8, none⟩ = some (.slice _ j.preds.length cp) := blkcell hbj_ 8 (by simp)
            clear hbj_
            by_cases hltp : k < j.preds.length
            case pos =>
              obtain ⟨adp, hAp, n1⟩ := HI.out.preds k hltp
              cases hAp
              have hltp' : (k : Int) < (j.preds.length : Int) := by omega
              have dlp : decide ((k : Int) < (j.preds.length : Int)) = true := decide_eq_true hltp'
              have hin := (HNJ.out.froms _ (List.getElem_mem hltp)).2
              have HTP := Lib.hid (sum_take_succ (fs := j.preds.map numL) (i := k) (by rw [List.length_map]; exact hltp))
              obtain ⟨p, hp⟩ : ∃ v, j.preds[k] = v := ⟨_, rfl⟩
              rw [hp] at n1 hin
              have n1' := HPt.out.cell_some n1 (fun c => c)
              obtain ⟨L, hL⟩ : ∃ L, numL p = L := ⟨_, rfl⟩
              have hbL := numL_bound p
              rw [hL] at hbL
              have HL := Lib.hid (fun W' => num17q p L hL hin W')
              obtain ⟨D1, hD1⟩ : ∃ s, A0 + L = s := ⟨_, rfl⟩
              have hwD1 : IntKind.i64.wrap (A0 + L) = D1 := by rw [IntKind.wrap_i64]; omega
              have HD1 := Lib.hid hD1
              have E := Lib.hid (show D1 = V0 + ((j.preds.map numL).take (k + 1)).sum from by
                rw [HTP.out, hs4, List.getElem_map, hp, hL]; omega)
              clear hp hs4 HTP hL hbL hD1 n1 hin hsb hA0
              go_wp2_with (go_at_call 69; refine (HL.out _).mono ?_; rintro e w8 ⟨rfl, rfl⟩)
              go_roundg (j.preds.length - (k + 1))
              case measure => rw [HGKp.out]; omega
              case rel => exact ⟨k + 1, rfl, by omega, by go_num, HPz.out, by rw [E.out]⟩
            obtain rfl : k = j.preds.length := by omega
            have hltp' : ¬ (j.preds.length : Int) < (j.preds.length : Int) := by omega
            rw [List.take_of_length_le (by rw [List.length_map]; exact Nat.le_refl _)] at hs4
            have E := Lib.hid (show A0 = S0 + ((js.map jobSz).take (i + 1)).sum from by rw [HJ3.out, hs4]; exact HA0.out.symm)
            clear hs4
            go_wp2_with fail
            go_roundg (js.length - (i + 1))
            case measure => rw [HGKj.out]; omega
            case rel => exact ⟨i + 1, rfl, by omega, by go_num, HZr.out.trans HP1.out, by rw [E.out]⟩
end Go.Proofs.Ytoaopjbgaehpfaa.G
