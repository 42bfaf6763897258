/- Texts of this claim, joined: words and laws that the others use. -/
import Derived.Test.YtoaopjbgaehpfaaQMo
import Derived.Deep.DeepCutAuto
import Derived.Test.YtoaopjbgaehpfaaQMl
import Derived.Test.YtoaopjbgaehpfaaQGg
import Derived.Deep.WholeRow
import Derived.Laws.ResultCell
section
/- SamePlan: two plans held against one another. -/
namespace Go.Proofs.Ytoaopjbgaehpfaa.G
open Go.RowKit
attribute [local simp, local go_sem] alloc_drewN setCell_drewN
set_option linter.unusedVariables false
set_option linter.unusedSimpArgs false
set_option maxRecDepth 100000
theorem job_ext {j j' : JobP} (h1 : j.one.name = j'.one.name) (h2 : j.one.run = j'.one.run) (h3 : j.one.stage = j'.one.stage) (h4 : j.one.when_ = j'.one.when_) (h5 : j.allow = j'.allow) (h6 : j.one.weight = j'.one.weight) (h7 : j.rules = j'.rules) (h8 : j.vars = j'.vars) (h9 : j.preds = j'.preds) : j = j' := by
  obtain ⟨⟨a, b, c, d, e⟩, f, g, i, k⟩ := j
  obtain ⟨⟨a', b', c', d', e'⟩, f', g', i', k'⟩ := j'
  simp only at h1 h2 h3 h4 h5 h6 h7 h8 h9
  subst h1 h2 h3 h4 h5 h6 h7 h8 h9
  rfl
def SmAt (w : World) (At Aj At' Aj' : Option Addr) (nt ct nj cj ct' cj' : Nat) (js js' : List JobP) (gk : Nat) (v : Value) (wr : World) : Prop :=
  ∃ i : Nat, gk = nj - i ∧ i ≤ nj ∧ v = .int .i64 (i : Int) ∧ But No w wr ∧ wr.heap[w.heap.size]? = some (.cells #[.slice At nt ct, .slice Aj nj cj] 25 (0, 0)) ∧ wr.heap[w.heap.size + 1]? = some (.cells #[.slice At' nt ct', .slice Aj' nj cj'] 25 (0, 0)) ∧ js.take i = js'.take i
def SmRAt (W : World) (j j' : JobP) (gk : Nat) (v : Value) (ws : World) : Prop :=
  ∃ k : Nat, gk = j.rules.length - k ∧ k ≤ j.rules.length ∧ v = .int .i64 (k : Int) ∧ (∃ q, ws = W.drewN q) ∧ j.rules.take k = j'.rules.take k
set_option maxHeartbeats 8000000 in
theorem samePlan0 {w : World} {At Aj At' Aj' : Option Addr} {ts ts' : List ByteArray} {js js' : List JobP} (ct cj ct' cj' : Nat) (h : PlanIn w At ts Aj js) (h' : PlanIn w At' ts' Aj' js') :
    Calls Try.prog 13 #[.agg #[.slice At ts.length ct, .slice Aj js.length cj], .agg #[.slice At' ts'.length ct', .slice Aj' js'.length cj']] w fun e w' => ∃ b : Bool, e = .returned (.bool b) ∧ (b = true ↔ ts = ts' ∧ js = js') ∧ But No w w' := by
  have H := Lib.hid h
  have H' := Lib.hid h'
  clear h h'
  have HS := Lib.hid (fun W (hW : But No w W) => sameTexts0 At At' ct ct' ts ts' W (strsIn_lies (H.out.but hW).texts) (strsIn_lies (H'.out.but hW).texts) H.out.tl H'.out.tl)
  by_cases hts : ts = ts'
  case neg =>
    have e1 : eqB ts ts' = false := decide_eq_false hts
    have E := Lib.hid (show ¬ (ts = ts' ∧ js = js') from fun h => hts h.1)
    have E1 := Lib.hid e1
    clear hts e1
    go_enter Try.func13, Try.ntmps13
    go_wp2_with (first | (go_at_call 32; refine (HS.out _ (((But.refl No w).alloc _).alloc _)).mono ?_; rintro e w1 ⟨rfl, hq1⟩; rw [E1.out]; (have HB1 := Lib.hid ((((But.refl No w).alloc _).alloc _).trans (drewn_but hq1))); clear hq1))
    go_ret
    exact ⟨false, rfl, ⟨fun h => (by cases h), fun h => absurd h E.out⟩, HB1.out⟩
  have e1 : eqB ts ts' = true := decide_eq_true hts
  have E1 := Lib.hid e1
  by_cases hjl : js.length = js'.length
  case neg =>
    have hne : ((js.length : Int) != (js'.length : Int)) = true := by simpa using fun e : (js.length : Int) = (js'.length : Int) => hjl (by omega)
    have hn1 : ¬ (js.length : Int) = (js'.length : Int) := fun e => hjl (by omega)
    have hl1 := H.out.jl
    have hl2 := H'.out.jl
    have E := Lib.hid (show ¬ (ts = ts' ∧ js = js') from fun h => hjl (by rw [h.2]))
    clear hts e1 hjl
    go_enter Try.func13, Try.ntmps13
    go_wp2_with (first | (go_at_call 32; refine (HS.out _ (((But.refl No w).alloc _).alloc _)).mono ?_; rintro e w1 ⟨rfl, ⟨q1, rfl⟩⟩; rw [E1.out]))
    go_ret
    exact ⟨false, rfl, ⟨fun h => (by cases h), fun h => absurd h E.out⟩, (((But.refl No w).alloc _).alloc _).drewN q1⟩
  have HTS := Lib.hid hts
  have HJL := Lib.hid hjl
  have hl1 := H.out.jl
  obtain ⟨nt, hnt⟩ : ∃ n, ts.length = n := ⟨_, rfl⟩
  obtain ⟨nj, hnj⟩ : ∃ n, js.length = n := ⟨_, rfl⟩
  have HNJ := Lib.hid hnj
  have hnt' : ts'.length = nt := by rw [← hts]; exact hnt
  have hnj' : js'.length = nj := by rw [← hjl]; exact hnj
  have HNJ' := Lib.hid hnj'
  rw [hnt, hnj, hnt', hnj']
  rw [hnt, hnt'] at HS
  rw [hnj] at hl1
  obtain ⟨B, hB⟩ : ∃ B : Bool, (B = true ↔ ts = ts' ∧ js = js') := by
    by_cases hq : ts = ts' ∧ js = js'
    · exact ⟨true, ⟨fun _ => hq, fun _ => rfl⟩⟩
    · exact ⟨false, ⟨fun h => (by cases h), fun h => absurd h hq⟩⟩
  have HB := Lib.hid hB
  clear hts e1 hjl hnt hnj hnt' hnj' hB
  suffices hsuf : Calls Try.prog 13 #[.agg #[.slice At nt ct, .slice Aj nj cj], .agg #[.slice At' nt ct', .slice Aj' nj cj']] w fun e w' => e = .returned (.bool B) ∧ But No w w' from hsuf.mono fun e w' h => ⟨B, h.1, HB.out, h.2⟩
  go_enter Try.func13, Try.ntmps13
  go_wp2_with (first | (go_at_call 32; refine (HS.out _ (((But.refl No w).alloc _).alloc _)).mono ?_; rintro e w1 ⟨rfl, ⟨q1, rfl⟩⟩; rw [E1.out]))
  go_loopg [5] nj (fun gk v wr => SmAt w At Aj At' Aj' nt ct nj cj ct' cj' js js' gk v wr)
  case atStart => exact ⟨0, rfl, Nat.zero_le _, rfl, (((But.refl No w).alloc _).alloc _).drewN q1, blkold (heap_alloc_new w _) _, blkb w _ _, rfl⟩
  case round =>
    obtain ⟨wo, rfl⟩ : ∃ x, x = wr := ⟨_, rfl⟩
    obtain ⟨i, hgk, hi, rfl, hbw, hb1, hb2, htk⟩ := hrel
    have HGK := Lib.hid hgk
    have HBW := Lib.hid hbw
    have HB1 := Lib.hid hb1
    have HB2 := Lib.hid hb2
    have HTK := Lib.hid htk
    have p1 : wo.cell? ⟨w.heap.size, 1, none⟩ = some (.slice Aj nj cj) := blkcell hb1 1 (by simp)
    have r1 : wo.cell? ⟨w.heap.size + 1, 1, none⟩ = some (.slice Aj' nj cj') := blkcell hb2 1 (by simp)
    clear hgk hbw hb1 hb2 htk
    by_cases hlt : i < nj
    · have hlt' : (i : Int) < (nj : Int) := by omega
      have dl : decide ((i : Int) < (nj : Int)) = true := decide_eq_true hlt'
      have hij : i < js.length := by rw [HNJ.out]; exact hlt
      have hij' : i < js'.length := by rw [HNJ'.out]; exact hlt
      obtain ⟨ad, hA, Ar, Av, Ap, cr, cv, cp, hJ⟩ := (H.out.but HBW.out).jobs i hij
      obtain ⟨ad', hA', Ar', Av', Ap', cr', cv', cp', hJ'⟩ := (H'.out.but HBW.out).jobs i hij'
      subst hA hA'
      obtain ⟨j, hj⟩ : ∃ j, js[i] = j := ⟨_, rfl⟩
      obtain ⟨j', hj'⟩ : ∃ j, js'[i] = j := ⟨_, rfl⟩
      have HF := Lib.hid (H.out.fits j (hj ▸ List.getElem_mem hij))
      have HF' := Lib.hid (H'.out.fits j' (hj' ▸ List.getElem_mem hij'))
      rw [hj] at hJ
      rw [hj'] at hJ'
      have HJ := Lib.hid hJ
      have HJ' := Lib.hid hJ'
      have HBAD := Lib.hid (fun (hne : j ≠ j') => show B = false from by
        cases hb : B with
        | false => rfl
        | true =>
          refine absurd ?_ hne
          have := (HB.out.1 hb).2
          subst this
          rw [← hj, ← hj'])
      have HNX := Lib.hid (fun (he : j = j') => show js.take (i + 1) = js'.take (i + 1) from take_next hij hij' HTK.out (by rw [hj, hj']; exact he))
      have c0 := hJ.c0
      have g0 := hJ'.c0
      have c1 := hJ.c1
      have g1 := hJ'.c1
      have c2 := hJ.c2
      have g2 := hJ'.c2
      have c3 := hJ.c3
      have g3 := hJ'.c3
      have c4 := hJ.c4
      have g4 := hJ'.c4
      have c5 := hJ.c5
      have g5 := hJ'.c5
      have c6 := hJ.c6
      have g6 := hJ'.c6
      have c7 := hJ.c7
      have g7 := hJ'.c7
      have c8 := hJ.c8
      have g8 := hJ'.c8
      clear hj hj' hij hij'
      go_upto_region 6 with (fail)
      go_cut [6, 7] (fun v6 v7 wc => ∃ p q : Nat, v6 = .pointer (some ⟨p, 0, none⟩) ∧ v7 = .pointer (some ⟨q, 0, none⟩) ∧ But No wo wc ∧ wc.heap[p]? = some (.cells (jobCs j (.slice Ar j.rules.length cr) (.slice Av j.vars.length cv) (.slice Ap j.preds.length cp)) 52 (0, 0)) ∧ wc.heap[q]? = some (.cells (jobCs j' (.slice Ar' j'.rules.length cr') (.slice Av' j'.vars.length cv') (.slice Ap' j'.preds.length cp')) 52 (0, 0)))
      case first =>
        refine wp_region_held_drew (S := fun w' => But No wo w') (by kernel_rfl) ((But.refl No wo).drew) (fun hS => ?_)
        refine takeE 0 (some 31) rfl rfl (fun w e1 => by go_simp <;> (with_reducible rfl)) hS ?_
        simp only [putS]
        refine takeE 1 (some 32) rfl rfl (fun w e1 => by have z0 := e1.cell_some p1 (fun c => c); go_simp <;> (with_reducible rfl)) hS ?_
        simp only [putS]
        refine takeE 2 (some 33) rfl rfl (fun w e1 => by go_simp <;> (with_reducible rfl)) hS ?_
        simp only [putS]
        refine takeE 3 (some 34) rfl rfl (fun w e1 => by go_simp <;> (with_reducible rfl)) hS ?_
        simp only [putS]
        refine takeE 4 (some 35) rfl rfl (fun w e1 => by have z0 := e1.cell_some c0 (fun c => c); have z1 := e1.cell_some c1 (fun c => c); have z2 := e1.cell_some c2 (fun c => c); have z3 := e1.cell_some c3 (fun c => c); have z4 := e1.cell_some c4 (fun c => c); have z5 := e1.cell_some c5 (fun c => c); have z6 := e1.cell_some c6 (fun c => c); have z7 := e1.cell_some c7 (fun c => c); have z8 := e1.cell_some c8 (fun c => c); go_simp <;> (with_reducible rfl)) hS ?_
        simp only [putS]
        refine takeE 5 (some 36) rfl rfl (fun w e1 => by go_simp <;> (with_reducible rfl)) hS ?_
        simp only [putS]
        refine takeE 6 (some 37) rfl rfl (fun w e1 => by have z0 := e1.cell_some r1 (fun c => c); go_simp <;> (with_reducible rfl)) hS ?_
        simp only [putS]
        refine takeE 7 (some 38) rfl rfl (fun w e1 => by go_simp <;> (with_reducible rfl)) hS ?_
        simp only [putS]
        refine takeE 8 (some 39) rfl rfl (fun w e1 => by go_simp <;> (with_reducible rfl)) hS ?_
        simp only [putS]
        refine takeE 9 (some 40) rfl rfl (fun w e1 => by have z0 := e1.cell_some g0 (fun c => c); have z1 := e1.cell_some g1 (fun c => c); have z2 := e1.cell_some g2 (fun c => c); have z3 := e1.cell_some g3 (fun c => c); have z4 := e1.cell_some g4 (fun c => c); have z5 := e1.cell_some g5 (fun c => c); have z6 := e1.cell_some g6 (fun c => c); have z7 := e1.cell_some g7 (fun c => c); have z8 := e1.cell_some g8 (fun c => c); go_simp <;> (with_reducible rfl)) hS ?_
        simp only [putS]
        refine wpAnyH_ready (rs := [10, 11]) (by kernel_rfl) (by simp) (AllReadyH.cons rfl (fun K10 hK10 => ?_) (AllReadyH.cons rfl (fun K11 hK11 => ?_) AllReadyH.nil))
        · skip
          rw [if_pos (by kernel_rfl)]
          go_simp
          refine hK10.out _ _ (((But.refl No wo).drew).alloc _) (fun hS => ?_)
          try simp only [putS, List.getElem_toArray, List.getElem_cons_zero, List.getElem_cons_succ]
          refine wpAnyH_ready (rs := [11]) (by kernel_rfl) (by simp) (AllReadyH.cons rfl (fun K11 hK11 => ?_) AllReadyH.nil)
          rw [if_pos (by kernel_rfl)]
          go_simp
          refine hK11.out _ _ ((((But.refl No wo).drew).alloc _).alloc _) (fun hS => ?_)
          try simp only [putS, List.getElem_toArray, List.getElem_cons_zero, List.getElem_cons_succ]
          refine wpAnyH_ready (rs := [12]) (by kernel_rfl) (by simp) (AllReadyH.cons rfl (fun K12 hK12 => ?_) AllReadyH.nil)
          rw [if_pos (by kernel_rfl)]
          go_simp
          refine hK12.out _ _ ((((But.refl No wo).alloc _).alloc _).drew) (fun hS => ?_)
          try simp only [putS, List.getElem_toArray, List.getElem_cons_zero, List.getElem_cons_succ]
          refine wpAnyH_ready (rs := [13]) (by kernel_rfl) (by simp) (AllReadyH.cons rfl (fun K13 hK13 => ?_) AllReadyH.nil)
          rw [if_pos (by kernel_rfl)]
          go_simp
          refine hK13.out _ _ ((((But.refl No wo).alloc _).alloc _).drew) (fun hS => ?_)
          try simp only [putS, List.getElem_toArray, List.getElem_cons_zero, List.getElem_cons_succ]
          refine wpAnyH_done (by kernel_rfl) ?_ _
          go_wp2_with fail
          go_meet
          case rel => exact ⟨wo.heap.size, wo.heap.size + 1, rfl, rfl, (((But.refl No wo).alloc _).alloc _).drew, drewH (blkold (heap_alloc_new wo _) _), drewH (blkb wo _ _)⟩
        · skip
          rw [if_pos (by kernel_rfl)]
          go_simp
          refine hK11.out _ _ (((But.refl No wo).drew).alloc _) (fun hS => ?_)
          try simp only [putS, List.getElem_toArray, List.getElem_cons_zero, List.getElem_cons_succ]
          refine wpAnyH_ready (rs := [10]) (by kernel_rfl) (by simp) (AllReadyH.cons rfl (fun K10 hK10 => ?_) AllReadyH.nil)
          rw [if_pos (by kernel_rfl)]
          go_simp
          refine hK10.out _ _ ((((But.refl No wo).drew).alloc _).alloc _) (fun hS => ?_)
          try simp only [putS, List.getElem_toArray, List.getElem_cons_zero, List.getElem_cons_succ]
          refine wpAnyH_ready (rs := [12]) (by kernel_rfl) (by simp) (AllReadyH.cons rfl (fun K12 hK12 => ?_) AllReadyH.nil)
          rw [if_pos (by kernel_rfl)]
          go_simp
          refine hK12.out _ _ ((((But.refl No wo).alloc _).alloc _).drew) (fun hS => ?_)
          try simp only [putS, List.getElem_toArray, List.getElem_cons_zero, List.getElem_cons_succ]
          refine wpAnyH_ready (rs := [13]) (by kernel_rfl) (by simp) (AllReadyH.cons rfl (fun K13 hK13 => ?_) AllReadyH.nil)
          rw [if_pos (by kernel_rfl)]
          go_simp
          refine hK13.out _ _ ((((But.refl No wo).alloc _).alloc _).drew) (fun hS => ?_)
          try simp only [putS, List.getElem_toArray, List.getElem_cons_zero, List.getElem_cons_succ]
          refine wpAnyH_done (by kernel_rfl) ?_ _
          go_wp2_with fail
          go_meet
          case rel => exact ⟨wo.heap.size + 1, wo.heap.size, rfl, rfl, (((But.refl No wo).alloc _).alloc _).drew, drewH (blkb wo _ _), drewH (blkold (heap_alloc_new wo _) _)⟩
      case rest =>
        obtain ⟨p, q, rfl, rfl, hbc, hbp, hbq⟩ := hcut
        have HBC := Lib.hid hbc
        have HV := Lib.hid (fun W (hW : But No wo W) => sameVars0 Av Av' cv cv' j.vars j'.vars W (pairsIn_lies (HJ.out.vars.but hW)) (pairsIn_lies (HJ'.out.vars.but hW)) HF.out.vars HF'.out.vars)
        have HP := Lib.hid (fun W (hW : But No wo W) => sameInts0 Ap Ap' cp cp' j.preds j'.preds W (intsIn_lies (HJ.out.preds.but hW)) (intsIn_lies (HJ'.out.preds.but hW)) HF.out.preds HF'.out.preds)
        have hr1 := HF.out.rules
        have hr2 := HF'.out.rules
        have x0 : wc.cell? ⟨p, 0, none⟩ = some (.int .i64 j.one.name) := blkcell hbp 0 (by simp [jobCs])
        have x1 : wc.cell? ⟨p, 1, none⟩ = some (.int .i64 j.one.run) := blkcell hbp 1 (by simp [jobCs])
        have x2 : wc.cell? ⟨p, 2, none⟩ = some (.int .i64 j.one.stage) := blkcell hbp 2 (by simp [jobCs])
        have x3 : wc.cell? ⟨p, 3, none⟩ = some (.int .i64 j.one.when_) := blkcell hbp 3 (by simp [jobCs])
        have x4 : wc.cell? ⟨p, 4, none⟩ = some (.bool j.allow) := blkcell hbp 4 (by simp [jobCs])
        have x5 : wc.cell? ⟨p, 5, none⟩ = some (.int .i64 j.one.weight) := blkcell hbp 5 (by simp [jobCs])
        have x6 : wc.cell? ⟨p, 6, none⟩ = some (.slice Ar j.rules.length cr) := blkcell hbp 6 (by simp [jobCs])
        have x7 : wc.cell? ⟨p, 7, none⟩ = some (.slice Av j.vars.length cv) := blkcell hbp 7 (by simp [jobCs])
        have x8 : wc.cell? ⟨p, 8, none⟩ = some (.slice Ap j.preds.length cp) := blkcell hbp 8 (by simp [jobCs])
        have y0 : wc.cell? ⟨q, 0, none⟩ = some (.int .i64 j'.one.name) := blkcell hbq 0 (by simp [jobCs])
        have y1 : wc.cell? ⟨q, 1, none⟩ = some (.int .i64 j'.one.run) := blkcell hbq 1 (by simp [jobCs])
        have y2 : wc.cell? ⟨q, 2, none⟩ = some (.int .i64 j'.one.stage) := blkcell hbq 2 (by simp [jobCs])
        have y3 : wc.cell? ⟨q, 3, none⟩ = some (.int .i64 j'.one.when_) := blkcell hbq 3 (by simp [jobCs])
        have y4 : wc.cell? ⟨q, 4, none⟩ = some (.bool j'.allow) := blkcell hbq 4 (by simp [jobCs])
        have y5 : wc.cell? ⟨q, 5, none⟩ = some (.int .i64 j'.one.weight) := blkcell hbq 5 (by simp [jobCs])
        have y6 : wc.cell? ⟨q, 6, none⟩ = some (.slice Ar' j'.rules.length cr') := blkcell hbq 6 (by simp [jobCs])
        have y7 : wc.cell? ⟨q, 7, none⟩ = some (.slice Av' j'.vars.length cv') := blkcell hbq 7 (by simp [jobCs])
        have y8 : wc.cell? ⟨q, 8, none⟩ = some (.slice Ap' j'.preds.length cp') := blkcell hbq 8 (by simp [jobCs])
        clear hbc hbp hbq c0 g0 c1 g1 c2 g2 c3 g3 c4 g4 c5 g5 c6 g6 c7 g7 c8 g8
        go_upto_region 7 with (fail)
        go_cut [105] (fun v wx => ∃ b : Bool, v = .bool (!b) ∧ (b = true → j.one.name = j'.one.name ∧ j.one.run = j'.one.run ∧ j.one.stage = j'.one.stage ∧ j.one.when_ = j'.one.when_ ∧ j.allow = j'.allow ∧ j.one.weight = j'.one.weight ∧ j.rules.length = j'.rules.length ∧ j.vars = j'.vars ∧ j.preds = j'.preds) ∧ (b = false → j ≠ j') ∧ ∃ n, wx = wc.drewN n)
        case first =>
          go_wp2_with (first | (go_at_call 33; refine (HV.out _ HBC.out).mono ?_; rintro e w2 ⟨rfl, ⟨n1, rfl⟩⟩; skip) | (go_at_call 34; refine (HP.out _ (HBC.out.drewN _)).mono ?_; rintro e w2 ⟨rfl, ⟨n2, rfl⟩⟩; skip))
          all_goals go_meet
          all_goals (first | exact ⟨false, rfl, fun h => (by cases h), fun _ e => (by subst e; first | contradiction | (exact absurd (show eqB j.vars j.vars = true from decide_eq_true rfl) (by assumption))), (by first | exact ⟨0, rfl⟩ | exact ⟨_, rfl⟩ | (rw [World.drewN_drewN]; exact ⟨_, rfl⟩))⟩ | exact ⟨eqB j.preds j'.preds, rfl, fun h => ⟨by assumption, by assumption, by assumption, by assumption, by assumption, by assumption, by omega, of_decide_eq_true (by assumption), of_decide_eq_true h⟩, fun h e => absurd h (by rw [e]; unfold eqB; simp), (by first | exact ⟨0, rfl⟩ | exact ⟨_, rfl⟩ | (rw [World.drewN_drewN]; exact ⟨_, rfl⟩))⟩)
        case rest =>
          obtain ⟨b, rfl, ht, hf, nq, rfl⟩ := hcut
          cases b with
          | false =>
            have E := Lib.hid (HBAD.out (hf rfl))
            clear ht hf
            go_wp2_with fail
            go_ret
            exact ⟨by rw [E.out]; rfl, (HBW.out.trans HBC.out).drewN nq⟩
          | true =>
            have HT := Lib.hid (ht rfl)
            obtain ⟨m, hm⟩ : ∃ m, j.rules.length = m := ⟨_, rfl⟩
            have hm' : j'.rules.length = m := by rw [← HT.out.2.2.2.2.2.2.1]; exact hm
            have HM := Lib.hid hm
            have HM' := Lib.hid hm'
            rw [hm] at x6 hr1
            rw [hm'] at y6
            clear ht hf hm hm' hr2
            go_wp2_with fail
            go_loopg [8] m (fun gk v ws => SmRAt wc j j' gk v ws)
            case atStart => exact ⟨0, by rw [HM.out]; rfl, Nat.zero_le _, rfl, ⟨nq, rfl⟩, rfl⟩
            case round =>
              obtain ⟨k, hgk, hk, rfl, hdr, htk⟩ := hrel
              have hbr := drewn_but hdr
              have HDR := Lib.hid hdr
              have HBR0 := Lib.hid hbr
              have x6' := hbr.cell_some x6 (fun c => c)
              have y6' := hbr.cell_some y6 (fun c => c)
              clear hdr hbr x6 y6
              have HGK2 := Lib.hid hgk
              have HTK2 := Lib.hid htk
              rw [HM.out] at hk
              clear hgk htk
              by_cases hkt : k < m
              · have hkt' : (k : Int) < (m : Int) := by omega
                have dk : decide ((k : Int) < (m : Int)) = true := decide_eq_true hkt'
                have hkj : k < j.rules.length := by rw [HM.out]; exact hkt
                have hkj' : k < j'.rules.length := by rw [HM'.out]; exact hkt
                obtain ⟨ad2, hA2, Ac, cc, r0, r1', hps⟩ := (HJ.out.rules.but (HBC.out.trans HBR0.out)) k hkj
                obtain ⟨ad3, hA3, Ac', cc', s0, s1, hps'⟩ := (HJ'.out.rules.but (HBC.out.trans HBR0.out)) k hkj'
                subst hA2 hA3
                obtain ⟨x, hx⟩ : ∃ x, j.rules[k] = x := ⟨_, rfl⟩
                obtain ⟨y, hy⟩ : ∃ y, j'.rules[k] = y := ⟨_, rfl⟩
                rw [hx] at r0 r1' hps
                rw [hy] at s0 s1 hps'
                have HSS := Lib.hid (fun n => sameSteps0 Ac Ac' cc cc' x.1 y.1 (wr.drewN n) (stepsIn_lies (hps.but ((But.refl No wr).drewN n))) (stepsIn_lies (hps'.but ((But.refl No wr).drewN n))) (by have := HF.out.codes j.rules[k] (List.getElem_mem hkj); rw [hx] at this; omega) (by have := HF'.out.codes j'.rules[k] (List.getElem_mem hkj'); rw [hy] at this; omega))
                have HNR := Lib.hid (fun (he : x = y) => show j.rules.take (k + 1) = j'.rules.take (k + 1) from take_next hkj hkj' HTK2.out (by rw [hx, hy]; exact he))
                have HBR := Lib.hid (fun (hne : x ≠ y) => show B = false from HBAD.out (fun e => hne (by rw [← hx, ← hy]; subst e; rfl)))
                clear hx hy hps hps' hkj hkj'
                go_upto_region 12 with (fail)
                go_cut [141] (fun v wx => ∃ b : Bool, v = .bool (!b) ∧ (b = true → x = y) ∧ (b = false → x ≠ y) ∧ ∃ n, wx = wr.drewN n)
                case first =>
                  by_cases hw : x.2 = y.2
                  · have b1 : (x.2 != y.2) = false := by simp [hw]
                    have HW := Lib.hid hw
                    clear hw
                    by_cases hc : x.1 = y.1
                    · have b2 : eqB x.1 y.1 = true := decide_eq_true hc
                      have HC := Lib.hid hc
                      clear hc
                      rw [b2] at HSS
                      go_quiet ((go_at_call 35; exact Calls.quiet_of (HSS.out _)))
                      go_wp2_with fail
                      go_meet
                      case rel => exact ⟨true, rfl, fun _ => Prod.ext HC.out HW.out, fun h => (by cases h), ⟨_, rfl⟩⟩
                    · have b2 : eqB x.1 y.1 = false := decide_eq_false hc
                      have HC := Lib.hid hc
                      clear hc
                      rw [b2] at HSS
                      go_quiet ((go_at_call 35; exact Calls.quiet_of (HSS.out _)))
                      go_wp2_with fail
                      go_meet
                      case rel => exact ⟨false, rfl, fun h => (by cases h), fun _ e => HC.out (by rw [e]), ⟨_, rfl⟩⟩
                  · have b1 : (x.2 != y.2) = true := by simpa using hw
                    have HW := Lib.hid hw
                    clear hw
                    go_quiet (fail)
                    go_wp2_with fail
                    go_meet
                    case rel => exact ⟨false, rfl, fun h => (by cases h), fun _ e => HW.out (by rw [e]), ⟨_, rfl⟩⟩
                case rest =>
                  obtain ⟨b, rfl, ht, hf, nq, rfl⟩ := hcut
                  cases b with
                  | false =>
                    have E := Lib.hid (HBR.out (hf rfl))
                    clear ht hf
                    go_wp2_with fail
                    go_ret
                    exact ⟨by rw [E.out]; rfl, ((HBW.out.trans HBC.out).trans HBR0.out).drewN nq⟩
                  | true =>
                    have E := Lib.hid (HNR.out (ht rfl))
                    clear ht hf
                    go_wp2_with fail
                    go_roundg (m - (k + 1))
                    case measure => rw [HGK2.out, HM.out]; omega
                    case rel => exact ⟨k + 1, by rw [HM.out], by rw [HM.out]; omega, by go_num, (by obtain ⟨q0, hq0⟩ := HDR.out; exact ⟨q0 + nq, by rw [hq0, World.drewN_drewN]⟩), E.out⟩
              · have hke : k = m := by omega
                have hkt' : ¬ (k : Int) < (m : Int) := by omega
                have dk : decide ((k : Int) < (m : Int)) = false := decide_eq_false hkt'
                have HR := Lib.hid (show j.rules = j'.rules from by
                  have := HTK2.out
                  rw [hke] at this
                  rw [← HM.out, List.take_length, HM.out, ← HM'.out, List.take_length] at this
                  exact this)
                have hjj : j = j' := by
                  obtain ⟨k1, k2, k3, k4, k5, k6, k7, k8, k9⟩ := HT.out
                  exact job_ext k1 k2 k3 k4 k5 k6 HR.out k8 k9
                have E := Lib.hid (HNX.out hjj)
                clear hke hjj
                go_wp2_with fail
                go_roundg (nj - (i + 1))
                case measure => rw [HGK.out]; omega
                case rel => exact ⟨i + 1, rfl, by omega, by go_num, (HBW.out.trans HBC.out).trans HBR0.out, ((HBC.out.trans HBR0.out).block _ (lt_of_block HB1.out) (fun c => c)).trans HB1.out, ((HBC.out.trans HBR0.out).block _ (lt_of_block HB2.out) (fun c => c)).trans HB2.out, E.out⟩
    · have hie : i = nj := by omega
      have hlt' : ¬ (i : Int) < (nj : Int) := by omega
      have dl : decide ((i : Int) < (nj : Int)) = false := decide_eq_false hlt'
      have E := Lib.hid (show B = true from HB.out.2 ⟨HTS.out, by
        have := HTK.out
        rw [hie] at this
        rw [← HNJ.out, List.take_length, HNJ.out, ← HNJ'.out, List.take_length] at this
        exact this⟩)
      clear hie
      go_wp2_with fail
      go_ret
      exact ⟨by rw [E.out]; rfl, HBW.out⟩
end Go.Proofs.Ytoaopjbgaehpfaa.G
end
section
/- WireStrict: walked. -/
namespace Go.Proofs.Ytoaopjbgaehpfaa.G
open Go.RowKit
attribute [local simp, local go_sem] alloc_drewN setCell_drewN
set_option linter.unusedVariables false
set_option linter.unusedSimpArgs false
set_option maxRecDepth 100000
/-- What a plan's lengths must be like. -/
structure PlanLens (ts : List ByteArray) (js : List JobP) : Prop where
  tl : ts.length ≤ 9223372036854775807
  jl : js.length ≤ 9223372036854775807
  sizes : ∀ s ∈ ts, s.size ≤ 9223372036854775807
  fits : ∀ j ∈ js, JobFits j
theorem PlanIn.lens {w : World} {At Aj : Option Addr} {ts : List ByteArray} {js : List JobP} (h : PlanIn w At ts Aj js) : PlanLens ts js := ⟨h.tl, h.jl, h.sizes, h.fits⟩
theorem PlanLies.inAs {base : Nat} {At : Option Addr} {nt ct : Nat} {Aj : Option Addr} {nj cj : Nat} {ts : List ByteArray} {js : List JobP} {W : World} (h : PlanLies base At nt ct Aj nj cj ts js W) (hf : PlanLens ts js) : PlanIn W At ts Aj js := by
  obtain ⟨h1, h2⟩ := own_strs h.texts
  obtain ⟨lv, h3, h4, h5⟩ := h.jobs
  obtain ⟨h6, h7⟩ := own_jobs h3 h4 h5
  exact ⟨h2, h7, hf.tl, hf.jl, hf.sizes, hf.fits⟩
end Go.Proofs.Ytoaopjbgaehpfaa.G
end
section
/- A plan that comes in, opened (the row narrowed to a bulk). -/
namespace Go.Proofs.Ytoaopjbgaehpfaa.G
open Go.RowKit
set_option linter.unusedVariables false
set_option linter.unusedSimpArgs false
set_option maxRecDepth 100000
theorem seen_ints {w : World} {A : Option Addr} {l : List Int} (h : seesRow (seesInt .i64) 1 w A l) : IntsIn w A l := fun i hi => by
  obtain ⟨ad, hA, cs, hcs, k⟩ := h i hi
  have hcs' : cs = [.int .i64 l[i]] := hcs
  subst hcs'
  have := k 0 _ rfl
  rw [add0, Nat.mul_one] at this
  exact ⟨ad, hA, this⟩
theorem seen_strs {w : World} {A : Option Addr} {l : List ByteArray} (h : seesRow seesString 1 w A l) : StrsIn w A l := fun i hi => by
  obtain ⟨ad, hA, cs, hcs, k⟩ := h i hi
  have hcs' : cs = [.string l[i]] := hcs
  subst hcs'
  have := k 0 _ rfl
  rw [add0, Nat.mul_one] at this
  exact ⟨ad, hA, this⟩
theorem seen_pairs {w : World} {A : Option Addr} {l : List (Int × Int)} (h : seesRow (seesPair (seesInt .i64) (seesInt .i64)) 2 w A l) : PairsIn w A l := fun i hi => by
  obtain ⟨ad, hA, cs, ⟨c, d, hcs, hc, hd⟩, k⟩ := h i hi
  have hc' : c = [.int .i64 l[i].1] := hc
  have hd' : d = [.int .i64 l[i].2] := hd
  subst hc' hd' hcs
  have k0 := k 0 _ rfl
  have k1 := k (0 + 1) _ rfl
  rw [add0] at k0
  rw [addS] at k1
  exact ⟨ad, hA, k0, k1⟩
def seesRule : Sees (List (Int × Int) × Int) := fun w r cs => ∃ A c, cs = [.slice A r.1.length c, .int .i64 r.2] ∧ PairsIn w A r.1
theorem seen_rules {w : World} {A : Option Addr} {l : List (List (Int × Int) × Int)} (h : seesRow seesRule 2 w A l) : RulesIn w A l := fun i hi => by
  obtain ⟨ad, hA, cs, ⟨A', c', hcs, hp⟩, k⟩ := h i hi
  subst hcs
  have k0 := k 0 _ rfl
  have k1 := k (0 + 1) _ rfl
  rw [add0] at k0
  rw [addS] at k1
  exact ⟨ad, hA, A', c', k0, k1, hp⟩
def seesJob : Sees JobP := fun w j cs => ∃ Ar cr Av cv Ap cp, cs = [.int .i64 j.one.name, .int .i64 j.one.run, .int .i64 j.one.stage, .int .i64 j.one.when_, .bool j.allow, .int .i64 j.one.weight, .slice Ar j.rules.length cr, .slice Av j.vars.length cv, .slice Ap j.preds.length cp] ∧ RulesIn w Ar j.rules ∧ PairsIn w Av j.vars ∧ IntsIn w Ap j.preds
theorem seen_jobs {w : World} {A : Option Addr} {l : List JobP} (h : seesRow seesJob 9 w A l) : JobsIn w A l := fun i hi => by
  obtain ⟨ad, hA, cs, ⟨Ar, cr, Av, cv, Ap, cp, hcs, hr, hv, hp⟩, k⟩ := h i hi
  subst hcs
  have k0 := k 0 _ rfl
  have k1 := k (0 + 1) _ rfl
  have k2 := k (1 + 1) _ rfl
  have k3 := k (2 + 1) _ rfl
  have k4 := k (3 + 1) _ rfl
  have k5 := k (4 + 1) _ rfl
  have k6 := k (5 + 1) _ rfl
  have k7 := k (6 + 1) _ rfl
  have k8 := k (7 + 1) _ rfl
  rw [add0] at k0
  rw [addS] at k1 k2 k3 k4 k5 k6 k7 k8
  exact ⟨ad, hA, Ar, Av, Ap, cr, cv, cp, ⟨k0, k1, k2, k3, k4, k5, k6, k7, k8, hr, hv, hp⟩⟩
def seesPlan : Sees (List ByteArray × List JobP) := fun w p cs => ∃ At ct Aj cj, cs = [.slice At p.1.length ct, .slice Aj p.2.length cj] ∧ StrsIn w At p.1 ∧ JobsIn w Aj p.2
def JobU (j : JobP) : Prop := (Lit.int .i64 j.one.name).wf = true ∧ ((∀ r ∈ j.rules, r.1.length ≤ 1048576) ∧ j.rules.length ≤ 1048576) ∧ j.vars.length ≤ 1048576 ∧ j.preds.length ≤ 1048576
def PlanU (p : List ByteArray × List JobP) : Prop := ((∀ s ∈ p.1, s.size ≤ 1048576) ∧ p.1.length ≤ 1048576) ∧ (∀ j ∈ p.2, JobU j) ∧ p.2.length ≤ 1048576
theorem oTsU : OpensKU Try.prog 22 (seesSlice seesString 1) (fun l => (∀ s ∈ l, s.size ≤ 1048576) ∧ l.length ≤ 1048576) := opensK_sliceU Try.underlying22 (opensK_stringU Try.underlying9) cel9
theorem oIsU : OpensKU Try.prog 50 (seesSlice (seesInt .i64) 1) (fun l => l.length ≤ 1048576) := OpensKU.mono (opensK_sliceU Try.underlying50 (opensK_intU Try.underlying3) cel3) fun l h => h.2
theorem oVsU : OpensKU Try.prog 49 (seesSlice (seesPair (seesInt .i64) (seesInt .i64)) 2) (fun l => l.length ≤ 1048576) :=
  OpensKU.mono (opensK_sliceU Try.underlying49 (opensK_structU Try.underlying81 (by rw [celV]; simp [cel3]) (opensKL_consU rfl (opensK_intU Try.underlying3) (opensKL_oneU (by simp [cel3]) (opensK_intU Try.underlying3)))) celV) fun l h => h.2
theorem oSsU : OpensKU Try.prog 56 (seesSlice (seesPair (seesInt .i64) (seesInt .i64)) 2) (fun l => l.length ≤ 1048576) :=
  OpensKU.mono (opensK_sliceU Try.underlying56 (opensK_structU Try.underlying79 (by rw [celS]; simp [cel3]) (opensKL_consU rfl (opensK_intU Try.underlying3) (opensKL_oneU (by simp [cel3]) (opensK_intU Try.underlying3)))) celS) fun l h => h.2
theorem oRU : OpensKU Try.prog 58 seesRule (fun r => r.1.length ≤ 1048576) :=
  OpensKU.iso (opensK_structU Try.underlying58 (by rw [celR]; simp [cel3, celSs]) (opensKL_consU rfl oSsU (opensKL_oneU (by simp [celSs]) (opensK_intU Try.underlying3)))) (fun p => p) _ (fun w a cs h => by
    obtain ⟨c, d, hcs, ⟨A, cc, hc, _, _, hr⟩, hd⟩ := h
    have hd' : d = [.int .i64 a.2] := hd
    subst hc hd' hcs
    exact ⟨A, cc, rfl, seen_pairs hr⟩) (fun a h => h.1)
theorem oRsU : OpensKU Try.prog 48 (seesSlice seesRule 2) (fun l => (∀ r ∈ l, r.1.length ≤ 1048576) ∧ l.length ≤ 1048576) := opensK_sliceU Try.underlying48 oRU celR
theorem oJU : OpensKU Try.prog 52 seesJob JobU :=
  OpensKU.iso (opensK_structU Try.underlying52 (by rw [celJ]; simp [cel3, cel4, celRs, celVs, celIs])
    (opensKL_consU rfl (opensK_intU Try.underlying3) (opensKL_consU (by simp [cel3]) (opensK_intU Try.underlying3) (opensKL_consU (by simp [cel3]) (opensK_intU Try.underlying3) (opensKL_consU (by simp [cel3]) (opensK_intU Try.underlying3) (opensKL_consU (by simp [cel3]) (opensK_boolU Try.underlying4) (opensKL_consU (by simp [cel3, cel4]) (opensK_intU Try.underlying3) (opensKL_consU (by simp [cel3, cel4]) oRsU (opensKL_consU (by simp [cel3, cel4, celRs]) oVsU (opensKL_oneU (by simp [cel3, cel4, celRs, celVs]) oIsU))))))))))
    (fun p => ⟨⟨p.1, p.2.1, p.2.2.1, p.2.2.2.1, p.2.2.2.2.2.1⟩, p.2.2.2.2.1, p.2.2.2.2.2.2.1, p.2.2.2.2.2.2.2.1, p.2.2.2.2.2.2.2.2⟩) _ (fun w a cs h => by
    obtain ⟨c0, d0, rfl, h0, c1, d1, rfl, h1, c2, d2, rfl, h2, c3, d3, rfl, h3, c4, d4, rfl, h4, c5, d5, rfl, h5, c6, d6, rfl, ⟨A6, k6, e6, _, _, r6⟩, c7, d7, rfl, ⟨A7, k7, e7, _, _, r7⟩, ⟨A8, k8, e8, _, _, r8⟩⟩ := h
    have h0' : c0 = [.int .i64 a.1] := h0
    have h1' : c1 = [.int .i64 a.2.1] := h1
    have h2' : c2 = [.int .i64 a.2.2.1] := h2
    have h3' : c3 = [.int .i64 a.2.2.2.1] := h3
    have h4' : c4 = [.bool a.2.2.2.2.1] := h4
    have h5' : c5 = [.int .i64 a.2.2.2.2.2.1] := h5
    subst h0' h1' h2' h3' h4' h5' e6 e7 e8
    exact ⟨A6, k6, A7, k7, A8, k8, rfl, seen_rules r6, seen_pairs r7, seen_ints r8⟩) (fun a h => ⟨h.1, h.2.2.2.2.2.2.1, h.2.2.2.2.2.2.2.1, h.2.2.2.2.2.2.2.2⟩)
theorem oPlanU : OpensKU Try.prog 25 seesPlan PlanU :=
  OpensKU.iso (opensK_structU Try.underlying25 (by rw [celP]; simp [celTs, celJs]) (opensKL_consU rfl oTsU (opensKL_oneU (by simp [celTs]) (opensK_sliceU Try.underlying23 oJU celJ)))) (fun p => p) _ (fun w a cs h => by
    obtain ⟨c, d, hcs, ⟨A, cc, hc, _, _, hr⟩, ⟨A', cc', hd, _, _, hr'⟩⟩ := h
    subst hc hd hcs
    exact ⟨A, cc, A', cc', rfl, seen_strs hr, seen_jobs hr'⟩) (fun a h => ⟨h.1, h.2.1, h.2.2⟩)
theorem planU_room {p : List ByteArray × List JobP} (h : PlanU p) : PlanRoom p.1 p.2 := by
  refine ⟨by have := h.1.2; omega, by have := h.2.2; omega, fun j hj => ?_⟩
  obtain ⟨_, ⟨h2, h3⟩, h4, h5⟩ := h.2.1 j hj
  exact ⟨by omega, by omega, by omega, fun r hr => by have := h2 r hr; omega⟩
theorem planU_lens {p : List ByteArray × List JobP} (h : PlanU p) : PlanLens p.1 p.2 := by
  refine ⟨by have := h.1.2; omega, by have := h.2.2; omega, fun s hs => by have := h.1.1 s hs; omega, fun j hj => ?_⟩
  obtain ⟨h1, ⟨h2, h3⟩, h4, h5⟩ := h.2.1 j hj
  exact ⟨h1, by omega, fun r hr => by have := h2 r hr; omega, by omega, by omega⟩
/-- A plan's value, and what lies. -/
theorem seen_plan {w : World} {p : List ByteArray × List JobP} {v : Value} (hv : ∃ cs, v = .agg cs ∧ cs.size = Try.prog.cellsOf 25) (h : seesPlan w p v.cells.toList) (hU : PlanU p) : ∃ At ct Aj cj, v = .agg #[.slice At p.1.length ct, .slice Aj p.2.length cj] ∧ PlanIn w At p.1 Aj p.2 := by
  obtain ⟨cs, rfl, _⟩ := hv
  obtain ⟨At, ct, Aj, cj, h1, h2, h3⟩ := h
  have hl := planU_lens hU
  refine ⟨At, ct, Aj, cj, ?_, ⟨h2, h3, hl.tl, hl.jl, hl.sizes, hl.fits⟩⟩
  have h1' : cs.toList = _ := h1
  rw [← Array.toArray_toList (xs := cs), h1']
end Go.Proofs.Ytoaopjbgaehpfaa.G
end
section
/- The reference's pieces: a row of a kind and 256 marks, as one value; a single byte's piece. -/
namespace Go.Proofs.Ytoaopjbgaehpfaa.G
open Go.RowKit
attribute [local simp, local go_sem] alloc_drewN setCell_drewN
set_option linter.unusedVariables false
set_option linter.unusedSimpArgs false
/-- The cells of a piece: its kind, and a mark for each byte. -/
def pcL (k : Int) (f : Nat → Bool) : List Value := .int .i64 k :: (List.range 256).map fun c => .bool (f c)
def pc (k : Int) (f : Nat → Bool) : Array Value := (pcL k f).toArray
theorem pcL_length (k : Int) (f : Nat → Bool) : (pcL k f).length = 257 := by simp only [pcL, List.length_cons, List.length_map, List.length_range]
theorem pc_size (k : Int) (f : Nat → Bool) : (pc k f).size = 257 := by simp only [pc, List.size_toArray, pcL_length]
theorem pcL_kind (k : Int) (f : Nat → Bool) : (pcL k f)[0]? = some (.int .i64 k) := rfl
theorem pcL_at (k : Int) (f : Nat → Bool) (i : Nat) (h : i < 256) : (pcL k f)[i + 1]? = some (.bool (f i)) := by
  simp only [pcL, List.getElem?_cons_succ, List.getElem?_map, List.getElem?_range h, Option.map_some]
theorem pc_kind (k : Int) (f : Nat → Bool) : (pc k f)[0]? = some (.int .i64 k) := by rw [pc, List.getElem?_toArray]; exact pcL_kind k f
theorem pc_at (k : Int) (f : Nat → Bool) (i : Nat) (h : i < 256) : (pc k f)[i + 1]? = some (.bool (f i)) := by rw [pc, List.getElem?_toArray]; exact pcL_at k f i h
theorem pc_set (k : Int) (f : Nat → Bool) (i : Nat) (b : Bool) : (pc k f).setIfInBounds (i + 1) (.bool b) = pc k (fun c => if c = i then b else f c) := by
  apply Array.ext_getElem?
  intro j
  rw [Array.getElem?_setIfInBounds]
  rcases j with _ | j
  · rw [if_neg (by omega), pc_kind, pc_kind]
  · by_cases hj : j < 256
    · rw [pc_at _ _ j hj, pc_at _ _ j hj]
      by_cases e : i = j
      · subst e
        rw [if_pos rfl, if_pos (by rw [pc_size]; omega)]
        simp
      · rw [if_neg (by omega)]
        have e' : ¬ j = i := fun h => e h.symm
        simp [e']
    · have h1 : ∀ g, (pc k g)[j + 1]? = none := fun g => Array.getElem?_eq_none (by rw [pc_size]; omega)
      rw [h1, h1]
      by_cases e : i + 1 = j + 1
      · rw [if_pos e, if_neg (by rw [pc_size]; omega)]
      · rw [if_neg e]
theorem pcL_one (k : Int) (f : Nat → Bool) : ∀ v ∈ pcL k f, v.oneCell' = true := by
  intro v hv
  simp only [pcL, List.mem_cons, List.mem_map] at hv
  rcases hv with rfl | ⟨c, _, rfl⟩ <;> rfl
theorem pc_one (k : Int) (f : Nat → Bool) : (pc k f).all (·.oneCell') = true :=
  Array.all_eq_true_iff_forall_mem.2 (fun v hv => pcL_one k f v (by simpa [pc] using hv))
def nof : Nat → Bool := fun _ => false
theorem infoPc : (Try.prog.info? 147).map (fun i => (i.zero, i.size, i.bytes)) = some (some (.agg (pc 0 nof)), 257, 264) := by kernel_rfl
theorem underPc : ∃ l, Try.prog.underlying 147 = some (.struct l) := by
  have h : (match Try.prog.underlying 147 with | some (.struct _) => true | _ => false) = true := by kernel_rfl
  split at h
  · rename_i l hl
    exact ⟨l, hl⟩
  · cases h
theorem builtPc1 : Try.prog.built 147 [(0, .int .i64 1)] = some (pc 1 nof) := by kernel_rfl
theorem builtPc2 : Try.prog.built 147 [(0, .int .i64 2)] = some (pc 2 nof) := by kernel_rfl
theorem builtPc0 : Try.prog.built 147 [] = some (pc 0 nof) := by kernel_rfl
theorem zeroPc : ∀ w, (zeroValue 147).run Try.prog w = .ok (.agg (pc 0 nof)) w := by
  have h := infoPc
  cases hq : Try.prog.info? 147 with
  | none => simp [hq] at h
  | some i =>
    simp only [hq, Option.map_some, Option.some.injEq, Prod.mk.injEq] at h
    exact fun w => by simp only [zeroValue, typeInfo, hq, h.1, Sem.run_bind, Result.andThen, Sem.run_pure]; simp [go_sem, hq, h.1]
theorem sizePc (k : Int) (f : Nat → Bool) : (Try.prog.info? 147).map (·.size) = some (pc k f).size := by
  rw [pc_size]
  have h := infoPc
  cases hq : Try.prog.info? 147 with
  | none => simp [hq] at h
  | some i => simp only [hq, Option.map_some, Option.some.injEq, Prod.mk.injEq] at h; simp [h.2.1]
theorem pc_at' (k : Int) (f : Nat → Bool) (i : Nat) (h : i < 256) : (pc k f)[1 + i]? = some (.bool (f i)) := by rw [Nat.add_comm]; exact pc_at k f i h
theorem pc_set' (k : Int) (f : Nat → Bool) (i : Nat) (b : Bool) : (pc k f).setIfInBounds (1 + i) (.bool b) = pc k (fun c => if c = i then b else f c) := by rw [Nat.add_comm]; exact pc_set k f i b
theorem loadPc {ops : Array Oper} {rest : List Oper} {o : Oper} {a : Act} {w : World} {Q : Exit → Act → World → Prop} (hgd : o.guard = none) (x : Operand) (ho : o.op = .load 147 x)
    (g : Nat) (hx : a.eval x = .pointer (some ⟨g, 0, none⟩)) (k : Int) (f : Nat → Bool) (hg : w.heap[g]? = some (.cells (pc k f) 147 (0, 0)))
    (h : wpList Try.prog ops Q rest (a.put o.dst (.agg (pc k f))) w) : wpList Try.prog ops Q (o :: rest) a w := by
  obtain ⟨l, hl⟩ := underPc
  exact wpList_load_row hgd _ x ho g hx _ _ _ _ hg hl rfl (sizePc k f) h
theorem storePc {ops : Array Oper} {rest : List Oper} {o : Oper} {a : Act} {w : World} {Q : Exit → Act → World → Prop} (hgd : o.guard = none) (x y : Operand) (ho : o.op = .store 147 x y)
    (g : Nat) (k : Int) (f : Nat → Bool) (hx : a.eval x = .pointer (some ⟨g, 0, none⟩)) (hy : a.eval y = .agg (pc k f)) (k0 : Int) (f0 : Nat → Bool)
    (hg : w.heap[g]? = some (.cells (pc k0 f0) 147 (0, 0)))
    (h : wpList Try.prog ops Q rest (a.put o.dst undef) (w.setRow g (pc k f))) : wpList Try.prog ops Q (o :: rest) a w :=
  wpList_store_row hgd _ x y ho g _ hx hy _ _ hg (sizePc k f) (by rw [pc_size, pc_size]) (pc_one k f) h
theorem But.setRowR {S : Nat → Prop} {w w' : World} (h : But S w w') {g : Nat} (hg : S g ∨ w.heap.size ≤ g) (cs : Array Value) : But S w (w'.setRow g cs) :=
  h.trans_ (S' := One g) ⟨rfl, rfl, rfl, by simp, fun k _ hn => setRow_other _ _ _ _ hn⟩
    (fun b hb e => by cases hg with
      | inl hp => exact e ▸ hp
      | inr hp => exact absurd hb (by unfold One at e; omega))
theorem setRow_drewN (w : World) (n g : Nat) (cs : Array Value) : (w.drewN n).setRow g cs = (w.setRow g cs).drewN n := rfl
end Go.Proofs.Ytoaopjbgaehpfaa.G
end
section
/- The reference's single byte. -/
namespace Go.Proofs.Ytoaopjbgaehpfaa.G
open Go.RowKit
attribute [local simp, local go_sem] alloc_drewN setCell_drewN
set_option linter.unusedVariables false
set_option linter.unusedSimpArgs false
set_option maxRecDepth 100000 in
set_option maxHeartbeats 2000000 in
theorem single0 (x : Nat) (hx : x < 256) (w : World) :
    Calls Try.prog 106 #[.int .u8 (x : Nat)] w fun e w' => e = .returned (.agg (pc 0 (fun c => decide (c = x)))) ∧ But No w w' := by
  have hv := zeroPc
  have hx' : (x : Int) < 256 := by omega
  have h1 := pc_at' 0 nof x hx
  have h2 : (pc 0 nof).setIfInBounds (1 + x) (.bool true) = pc 0 (fun c => decide (c = x)) := by
    rw [pc_set']
    rfl
  go_enter Try.func106, Try.ntmps106
  go_wp2_with (first | refine loadPc rfl _ rfl _ rfl 0 (fun c => decide (c = x)) (heap_alloc2_new w _ _) ?_ | refine storePc rfl _ _ rfl _ 0 (fun c => decide (c = x)) rfl rfl 0 nof (heap_alloc2_old w _ _) ?_)
  obtain ⟨l, hl⟩ := underPc
  refine bodyPost_ret (v := .agg (pc 0 fun c => decide (c = x))) ?_ rfl ⟨rfl, ?_⟩
  · exact results_cell_row rfl _ _ w.heap.size _ _ (0, 0) _ rfl (setRow_heap _ _ _ _ _ _ (heap_alloc2_old w _ _)) hl rfl (sizePc _ _)
  · exact (((But.refl No w).alloc _).alloc _).setRowR (.inr (Nat.le_refl _)) _
end Go.Proofs.Ytoaopjbgaehpfaa.G
end
section
/- The reference's byte in brackets. -/
namespace Go.Proofs.Ytoaopjbgaehpfaa.G
open Go.RowKit
attribute [local simp, local go_sem] alloc_drewN setCell_drewN setRow_drewN
set_option linter.unusedVariables false
set_option linter.unusedSimpArgs false
/-- A backslash that nothing follows. -/
def escBad (p : ByteArray) (x : Nat) : Bool := bt p x == 92 && decide (p.size ≤ x + 1)
def byteOk (p : ByteArray) (x : Nat) : Bool := goes p x && !escBad p x
theorem byteOk_go {p : ByteArray} {x : Nat} (h : byteOk p x = true) : goes p x = true ∧ escBad p x = false := by
  simpa [byteOk] using h
theorem rbytes_ok (p : ByteArray) (x : Nat) (w : World) (hp : p.size ≤ 256) (h : byteOk p x = true) :
    Calls Try.prog 110 #[.string p, .int .i64 (x : Nat)] w fun e w' => e = .returned (.tuple #[.int .u8 (byteV p x), .int .i64 (byteA p x : Nat), .bool true]) ∧ ∃ n, w' = w.drewN n := by
  obtain ⟨h1, h2⟩ := byteOk_go h
  clear h
  have hx := goes_lt h1
  have hb := bt_at p x hx
  have hp' : p.size ≤ 9223372036854775807 := by omega
  have e93 : (bt p x == 93) = false := by
    unfold goes at h1
    simp at h1
    simpa using h1.2
  have hxx : (x : Int) < (p.size : Int) := by omega
  have hxn : ¬ ((p.size : Int) ≤ (x : Int)) := by omega
  by_cases e : bt p x = 92
  · have e92 : (bt p x == 92) = true := by simp [e]
    have hlt : x + 1 < p.size := by
      unfold escBad at h2
      simp [e] at h2
      exact h2
    have hb1 := bt_at p (x + 1) hlt
    have E1 := Lib.hid (show byteV p x = bt p (x + 1) from by unfold byteV; rw [if_pos e, if_neg (by omega)])
    have E2 := Lib.hid (show byteA p x = x + 2 from by unfold byteA; rw [if_pos e, if_neg (by omega)])
    have hxn1 : ¬ ((p.size : Int) ≤ (x : Int) + 1) := by omega
    have hdn1 : decide ((p.size : Int) ≤ (x : Int) + 1) = false := by simp; omega
    have hdn : decide ((p.size : Int) ≤ (x : Int)) = false := by simp; omega
    clear h1 h2 e
    go_enter Try.func110, Try.ntmps110
    go_wp2
    go_ret3
    exact ⟨by rw [E1.out, E2.out]; rfl, 0, rfl⟩
  · have e92 : (bt p x == 92) = false := by simp [e]
    have E1 := Lib.hid (show byteV p x = bt p x from by unfold byteV; rw [if_neg e])
    have E2 := Lib.hid (show byteA p x = x + 1 from by unfold byteA; rw [if_neg e])
    have hdn : decide ((p.size : Int) ≤ (x : Int)) = false := by simp; omega
    clear h1 h2 e
    go_enter Try.func110, Try.ntmps110
    go_wp2
    go_ret3
    exact ⟨by rw [E1.out, E2.out]; rfl, 0, rfl⟩
theorem rbytes_no (p : ByteArray) (x : Nat) (w : World) (hp : p.size ≤ 256) (hx : x ≤ p.size) (h : byteOk p x = false) :
    Calls Try.prog 110 #[.string p, .int .i64 (x : Nat)] w fun e w' => e = .returned (.tuple #[.int .u8 0, .int .i64 (x : Nat), .bool false]) ∧ ∃ n, w' = w.drewN n := by
  have hp' : p.size ≤ 9223372036854775807 := by omega
  by_cases hlt : x < p.size
  · have hb := bt_at p x hlt
    have hdn : decide ((p.size : Int) ≤ (x : Int)) = false := by simp; omega
    have hxx : (x : Int) < (p.size : Int) := by omega
    have hxn : ¬ ((p.size : Int) ≤ (x : Int)) := by omega
    by_cases e3 : bt p x = 93
    · have e93 : (bt p x == 93) = true := by simp [e3]
      clear h e3
      go_enter Try.func110, Try.ntmps110
      go_wp2
      go_ret3
      exact ⟨rfl, 0, rfl⟩
    · have e93 : (bt p x == 93) = false := by simp [e3]
      obtain ⟨e, hle⟩ : bt p x = 92 ∧ p.size ≤ x + 1 := by
        unfold byteOk goes escBad at h
        simp [hlt, e3] at h
        exact h
      have e92 : (bt p x == 92) = true := by simp [e]
      have hx1 : ((p.size : Int) ≤ (x : Int) + 1) := by omega
      have hd1 : decide ((p.size : Int) ≤ (x : Int) + 1) = true := by simp; omega
      clear h e3 e hle
      go_enter Try.func110, Try.ntmps110
      go_wp2
      go_ret3
      exact ⟨rfl, 0, rfl⟩
  · have hdn : decide ((p.size : Int) ≤ (x : Int)) = true := by simp; omega
    have hxn : ((p.size : Int) ≤ (x : Int)) := by omega
    have hnx : ¬ ((x : Int) < (p.size : Int)) := by omega
    clear h
    go_enter Try.func110, Try.ntmps110
    go_wp2
    go_ret3
    exact ⟨rfl, 0, rfl⟩
end Go.Proofs.Ytoaopjbgaehpfaa.G
end
section
/- The reference's brackets: what they are read as. -/
namespace Go.Proofs.Ytoaopjbgaehpfaa.G
open Go.RowKit
attribute [local simp, local go_sem] alloc_drewN setCell_drewN setRow_drewN
set_option linter.unusedVariables false
set_option linter.unusedSimpArgs false
/-- The ranges of brackets from place x on, or none where the reference refuses. -/
def rgo (p : ByteArray) (x : Nat) (R : List (Int × Int)) : Option (Nat × List (Int × Int)) :=
  if h : goes p x = true then
    if escBad p x then none
    else if dash p (byteA p x) then
      if escBad p (byteA p x + 1) then none
      else if byteV p (byteA p x + 1) < byteV p x then none
      else rgo p (byteA p (byteA p x + 1)) (R ++ [(byteV p x, byteV p (byteA p x + 1))])
    else rgo p (byteA p x) (R ++ [(byteV p x, byteV p x)])
  else some (x, R)
termination_by p.size - x
decreasing_by
  all_goals
    have h1 := byteA_lt p x
    have h2 := byteA_lt p (byteA p x + 1)
    have h3 := goes_lt h
    omega
theorem rgo_stop {p : ByteArray} {x : Nat} (R : List (Int × Int)) (h : goes p x = false) : rgo p x R = some (x, R) := by
  rw [rgo, dif_neg (by rw [h]; simp)]
theorem rgo_bad {p : ByteArray} {x : Nat} (R : List (Int × Int)) (h : goes p x = true) (h1 : escBad p x = true) : rgo p x R = none := by
  rw [rgo, dif_pos h, if_pos h1]
theorem rgo_one {p : ByteArray} {x : Nat} (R : List (Int × Int)) (h : goes p x = true) (h1 : escBad p x = false) (h2 : dash p (byteA p x) = false) : rgo p x R = rgo p (byteA p x) (R ++ [(byteV p x, byteV p x)]) := by
  rw [rgo, dif_pos h, if_neg (by rw [h1]; simp), if_neg (by rw [h2]; simp)]
theorem rgo_bad2 {p : ByteArray} {x : Nat} (R : List (Int × Int)) (h : goes p x = true) (h1 : escBad p x = false) (h2 : dash p (byteA p x) = true) (h3 : escBad p (byteA p x + 1) = true) : rgo p x R = none := by
  rw [rgo, dif_pos h, if_neg (by rw [h1]; simp), if_pos h2, if_pos h3]
theorem rgo_turned {p : ByteArray} {x : Nat} (R : List (Int × Int)) (h : goes p x = true) (h1 : escBad p x = false) (h2 : dash p (byteA p x) = true) (h3 : escBad p (byteA p x + 1) = false) (h4 : byteV p (byteA p x + 1) < byteV p x) : rgo p x R = none := by
  rw [rgo, dif_pos h, if_neg (by rw [h1]; simp), if_pos h2, if_neg (by rw [h3]; simp), if_pos h4]
theorem rgo_two {p : ByteArray} {x : Nat} (R : List (Int × Int)) (h : goes p x = true) (h1 : escBad p x = false) (h2 : dash p (byteA p x) = true) (h3 : escBad p (byteA p x + 1) = false) (h4 : ¬ byteV p (byteA p x + 1) < byteV p x) :
    rgo p x R = rgo p (byteA p (byteA p x + 1)) (R ++ [(byteV p x, byteV p (byteA p x + 1))]) := by
  rw [rgo, dif_pos h, if_neg (by rw [h1]; simp), if_pos h2, if_neg (by rw [h3]; simp), if_neg h4]
theorem dash_goes {p : ByteArray} {x : Nat} (h : dash p x = true) : goes p (x + 1) = true := by
  unfold dash at h
  simp at h
  unfold goes
  simp
  exact ⟨h.1, h.2.2⟩
/-- Is the byte in one of the ranges? -/
def inR (R : List (Int × Int)) (c : Nat) : Bool := R.any fun s => decide (s.1 ≤ (c : Int)) && decide ((c : Int) ≤ s.2)
theorem inR_nil : inR [] = nof := rfl
theorem pc_congr {k : Int} {f g : Nat → Bool} (h : ∀ c, c < 256 → f c = g c) : pc k f = pc k g := by
  simp only [pc, pcL]
  congr 2
  refine List.map_congr_left fun c hc => ?_
  rw [h c (List.mem_range.1 hc)]
def fillR (R : List (Int × Int)) (lo c : Nat) (i : Nat) : Bool := inR R i || (decide (lo ≤ i) && decide (i < c))
theorem fillR_start (R : List (Int × Int)) (lo : Nat) : fillR R lo lo = inR R := by
  funext i
  unfold fillR
  by_cases h1 : lo ≤ i
  · have h2 : ¬ i < lo := by omega
    simp [h2]
  · simp [h1]
theorem fillR_step (R : List (Int × Int)) (lo c : Nat) (h : lo ≤ c) : (fun i => if i = c then true else fillR R lo c i) = fillR R lo (c + 1) := by
  funext i
  unfold fillR
  by_cases e : i = c
  · subst e
    simp [h]
  · rw [if_neg e]
    have : (i < c + 1) ↔ i < c := by omega
    simp [this]
theorem fillR_end (R : List (Int × Int)) (lo hi : Nat) : fillR R lo (hi + 1) = inR (R ++ [((lo : Int), (hi : Int))]) := by
  funext i
  unfold fillR inR
  rw [List.any_append]
  have h1 : ((lo : Int) ≤ (i : Int)) ↔ lo ≤ i := by omega
  have h2 : ((i : Int) ≤ (hi : Int)) ↔ i < hi + 1 := by omega
  simp [h1, h2]
def turnR (R : List (Int × Int)) (no : Bool) (c : Nat) (i : Nat) : Bool := if i < c then (inR R i != no) && (i != 47) else inR R i
theorem turnR_start (R : List (Int × Int)) (no : Bool) : turnR R no 0 = inR R := by
  funext i
  simp [turnR]
theorem turnR_at (R : List (Int × Int)) (no : Bool) (c : Nat) : turnR R no c c = inR R c := by simp [turnR]
theorem turnR_step (R : List (Int × Int)) (no : Bool) (c : Nat) : (fun i => if i = c then ((inR R c != no) && (c != 47)) else turnR R no c i) = turnR R no (c + 1) := by
  funext i
  unfold turnR
  by_cases e : i = c
  · subst e
    simp
  · rw [if_neg e]
    have : (i < c + 1) ↔ i < c := by omega
    simp [this]
theorem classL_in (R : List (Int × Int)) (no : Bool) (i : Nat) : ((inR R i != no) && (i != 47)) = classL R no (i : Int) := by
  have hh : (i != 47) = ((i : Int) != 47) := by
    rw [Bool.eq_iff_iff]
    simp
    omega
  unfold classL inR
  rw [Bool.and_comm, hh]
theorem turnR_end (R : List (Int × Int)) (no : Bool) : pc 0 (turnR R no 256) = pc 0 (fun c => classL R no (c : Int)) := by
  refine pc_congr fun c hc => ?_
  unfold turnR
  rw [if_pos hc, classL_in]
/-- The brackets that stand at place fr: the place behind them and the bytes that they fit. -/
def brk (p : ByteArray) (fr : Nat) : Option (Nat × (Int → Bool)) :=
  match rgo p (if notAt p (fr + 1) then fr + 2 else fr + 1) [] with
  | some (z, R) => if z < p.size ∧ R ≠ [] then some (z + 1, classL R (notAt p (fr + 1))) else none
  | none => none
theorem resBrk (tmps : Array Value) (w : World) (g : Nat) (k : Int) (f : Nat → Bool) (hp : tmps.getD 4 undef = .pointer (some ⟨g, 0, none⟩)) (hg : w.heap[g]? = some (.cells (pc k f) 147 (0, 0))) :
    (results Try.f105 tmps).run Try.prog w = .ok (.tuple #[.agg (pc k f), tmps.getD 5 undef, tmps.getD 6 undef]) w := by
  obtain ⟨l, hl⟩ := underPc
  have h := run_loadVar_row (P := Try.prog) w g _ 147 (pc k f) (0, 0) _ hg hl rfl (sizePc k f)
  have hr : Try.f105.results = #[.cell 4 147, .tmp 5, .tmp 6] := rfl
  have hp' : tmps[4]?.getD undef = .pointer (some ⟨g, 0, none⟩) := by simpa using hp
  simp only [results, hr]
  simp [Sem.run_bind, Result.andThen, hp', asAddr, h]
end Go.Proofs.Ytoaopjbgaehpfaa.G
end
section
/- The reference's brackets: the walk. -/
namespace Go.Proofs.Ytoaopjbgaehpfaa.G
open Go.RowKit
attribute [local simp, local go_sem] alloc_drewN setCell_drewN
set_option linter.unusedVariables false
set_option linter.unusedSimpArgs false
set_option maxRecDepth 100000
/-- Two pieces of its own, the first one still empty. -/
def Two (w : World) (f : Nat → Bool) (wr : World) : Prop :=
  But No w wr ∧ wr.heap[w.heap.size]? = some (.cells (pc 0 nof) 147 (0, 0)) ∧ wr.heap[w.heap.size + 1]? = some (.cells (pc 0 f) 147 (0, 0))
theorem Two.drewN {w wr : World} {f : Nat → Bool} (h : Two w f wr) (n : Nat) : Two w f (wr.drewN n) := ⟨h.1.drewN n, h.2.1, h.2.2⟩
theorem Two.set {w wr : World} {f g : Nat → Bool} (h : Two w f wr) (i : Nat) (b : Bool) (hg : (fun c => if c = i then b else f c) = g) : Two w g (wr.setCell ⟨w.heap.size + 1, 1 + i, none⟩ (.bool b)) :=
  ⟨h.1.setCell (p := ⟨w.heap.size + 1, 1 + i, none⟩) (.inr (Nat.le_succ _)) _, blkfar h.2.1 (by simp only; omega) _, by rw [blkset h.2.2 (1 + i) (.bool b), pc_set', hg]⟩
theorem Two.cell {w wr : World} {f : Nat → Bool} (h : Two w f wr) (i : Nat) (hi : i < 256) : wr.cell? ⟨w.heap.size + 1, 1 + i, none⟩ = some (.bool (f i)) := by
  rw [cell_of_row wr _ _ _ _ _ h.2.2, pc_at' _ _ _ hi]
theorem Two.free {w wr : World} {f : Nat → Bool} (h : Two w f wr) (i : Nat) : wr.frozen? ⟨w.heap.size + 1, i, none⟩ = false := blkfree h.2.2 i
/-- What brackets answer. -/
def brkEnd : Option (Nat × (Int → Bool)) → Value
  | some (z, f) => .tuple #[.agg (pc 0 fun c => f (c : Int)), .int .i64 (z : Int), .bool true]
  | none => .tuple #[.agg (pc 0 nof), .int .i64 0, .bool false]
theorem brk_fail {p : ByteArray} {fr x : Nat} {no : Bool} {R : List (Int × Int)} {G : Option (Nat × List (Int × Int))} {A : Option (Nat × (Int → Bool))} (hno : notAt p (fr + 1) = no) (hG : rgo p (if no then fr + 2 else fr + 1) [] = G) (hA : brk p fr = A)
    (hF : rgo p x R = G) (E : rgo p x R = none) : A = none := by
  rw [← hA]
  unfold brk
  rw [hno, hG, ← hF, E]
theorem brk_shut {p : ByteArray} {fr x : Nat} {no : Bool} {R : List (Int × Int)} {G : Option (Nat × List (Int × Int))} {A : Option (Nat × (Int → Bool))} (hno : notAt p (fr + 1) = no) (hG : rgo p (if no then fr + 2 else fr + 1) [] = G) (hA : brk p fr = A)
    (hF : some (x, R) = G) : A = if x < p.size ∧ R ≠ [] then some (x + 1, classL R no) else none := by
  rw [← hA]
  unfold brk
  rw [hno, hG, ← hF]
theorem brk_ret {w wz : World} {k0 : Int} {f0 : Nat → Bool} {a : Act} (A : Option (Nat × (Int → Bool))) (k : Int) (f : Nat → Bool) (h1 : But No w wz) (h2 : wz.heap[w.heap.size]? = some (.cells (pc k0 f0) 147 (0, 0)))
    (h3 : a.tmps.getD 4 undef = .pointer (some ⟨w.heap.size, 0, none⟩)) (h4 : brkEnd A = .tuple #[.agg (pc k f), a.tmps.getD 5 undef, a.tmps.getD 6 undef]) (h5 : a.defers = []) :
    bodyPost Try.prog Try.f105 (fun e w' => e = .returned (brkEnd A) ∧ But No w w') .ret a (wz.setRow w.heap.size (pc k f)) :=
  bodyPost_ret (resBrk a.tmps _ w.heap.size k f h3 (setRow_heap _ _ _ _ _ _ h2)) h5 ⟨by rw [h4], h1.setRowR (.inr (Nat.le_refl _)) _⟩
def BrkAt (w : World) (p : ByteArray) (G : Option (Nat × List (Int × Int))) (k : Nat) (v7 v10 : Value) (wr : World) : Prop :=
  ∃ (x : Nat) (R : List (Int × Int)), k = p.size - x ∧ x ≤ p.size ∧ R.length ≤ x ∧ v7 = .int .i64 (x : Int) ∧ v10 = .int .i64 (R.length : Int) ∧ Two w (inR R) wr ∧ rgo p x R = G
def BrkOut (w : World) (p : ByteArray) (G : Option (Nat × List (Int × Int))) (v7 v10 : Value) (wr : World) : Prop :=
  ∃ (x : Nat) (R : List (Int × Int)), x ≤ p.size ∧ R.length ≤ x ∧ v7 = .int .i64 (x : Int) ∧ v10 = .int .i64 (R.length : Int) ∧ Two w (inR R) wr ∧ some (x, R) = G
set_option maxHeartbeats 8000000 in
theorem brackets0 (p : ByteArray) (fr : Nat) (hfr : fr < p.size) (hp : p.size ≤ 256) (w : World) (no : Bool) (hno : notAt p (fr + 1) = no) (G : Option (Nat × List (Int × Int))) (hG : rgo p (if no then fr + 2 else fr + 1) [] = G) (A : Option (Nat × (Int → Bool))) (hA : brk p fr = A) :
    Calls Try.prog 105 #[.string p, .int .i64 (fr : Int)] w fun e w' => e = .returned (brkEnd A) ∧ But No w w' := by
  have hp' : p.size ≤ 9223372036854775807 := by omega
  have hv := zeroPc
  have HG := Lib.hid hG
  have HA := Lib.hid hA
  have HNO := Lib.hid hno
  clear hG hA hno
  go_enter Try.func105, Try.ntmps105
  go_upto_region 2 with (fail)
  go_cut [8] (fun v8 wc => v8 = .bool no ∧ But No w wc ∧ wc.heap[w.heap.size]? = some (.cells (pc 0 nof) 147 (0, 0)) ∧ wc.heap.size = w.heap.size + 1)
  case first =>
    have hfin : ∀ n, But No w ((w.alloc (.cells (pc 0 nof) 147)).drewN n) ∧ ((w.alloc (.cells (pc 0 nof) 147)).drewN n).heap[w.heap.size]? = some (.cells (pc 0 nof) 147 (0, 0)) ∧ ((w.alloc (.cells (pc 0 nof) 147)).drewN n).heap.size = w.heap.size + 1 :=
      fun n => ⟨((But.refl _ _).alloc _).drewN n, heap_alloc_new _ _, by simp⟩
    have HFin := Lib.hid hfin
    clear hfin
    by_cases hlt : fr + 1 < p.size
    · have hbt := bt_at p (fr + 1) hlt
      have E := Lib.hid (show (bt p (fr + 1) == 33) = no from by rw [← HNO.out]; simp [notAt, hlt])
      have hlt' : (fr : Int) + 1 < (p.size : Int) := by omega
      have hd : decide ((fr : Int) + 1 < (p.size : Int)) = true := by simp; omega
      go_wp2_with fail
      go_meet
      case rel => exact ⟨by rw [E.out], HFin.out 0⟩
    · have hlt' : ¬ ((fr : Int) + 1 < (p.size : Int)) := by omega
      have hd : decide ((fr : Int) + 1 < (p.size : Int)) = false := by simp; omega
      have E := Lib.hid (show no = false from by rw [← HNO.out]; simp [notAt, hlt])
      go_wp2_with fail
      go_meet
      case rel => exact ⟨by rw [E.out], HFin.out 0⟩
  case rest =>
    obtain ⟨rfl, hb0, hc0, hs0⟩ := hcut
    obtain ⟨x0, hx0⟩ : ∃ x0, x0 = (if no then fr + 2 else fr + 1) := ⟨_, rfl⟩
    have HX0 := Lib.hid hx0
    have hx0le : x0 ≤ p.size := by
      rw [hx0]
      split
      · rename_i hn
        exact notAt_lt (by rw [HNO.out]; exact hn)
      · omega
    clear hx0
    obtain ⟨wo, rfl⟩ : ∃ wo : World, wo = wc := ⟨_, rfl⟩
    go_upto_if 29 with (fail)
    go_cut [7] (fun v7 wc => v7 = .int .i64 (x0 : Int) ∧ wc = wo)
    case first =>
      cases no with
      | false =>
        have E := Lib.hid (show x0 = fr + 1 from HX0.out)
        go_wp2_with fail
        go_meet
        case rel => exact ⟨by rw [E.out]; rfl, rfl⟩
      | true =>
        have E := Lib.hid (show x0 = fr + 2 from HX0.out)
        go_wp2_with fail
        go_meet
        case rel => exact ⟨by rw [E.out]; first | rfl | (congr 1; omega), rfl⟩
    case rest =>
      obtain ⟨rfl, rfl⟩ := hcut
      go_upto_block 0 with (fail)
      go_cut [7, 10] (fun v7 v10 wc => BrkOut w p G v7 v10 wc)
      case first =>
        have hT0 : Two w (inR []) (wc.alloc (.cells (pc 0 nof) 147)) := ⟨hb0.alloc _, blkold hc0 _, by rw [← hs0, inR_nil]; exact heap_alloc_new _ _⟩
        have HT0 := Lib.hid hT0
        clear hT0
        go_wp2_with fail
        go_loopg [7, 10] (p.size - x0) (fun k v7 v10 wr => BrkAt w p G k v7 v10 wr)
        case atStart =>
          exact ⟨x0, [], rfl, hx0le, Nat.zero_le _, rfl, rfl, HT0.out, by rw [HX0.out]; exact HG.out⟩
        case round =>
          obtain ⟨x, R, hkx, hxle, hRl, rfl, rfl, hT, hF⟩ := hrel
          have HF := Lib.hid hF
          have HKX := Lib.hid hkx
          clear hF hkx
          go_upto_region 7 with (fail)
          go_cut [41] (fun v41 wc => v41 = .bool (goes p x) ∧ ∃ n, wc = wr.drewN n)
          case first =>
            by_cases hlt : x < p.size
            · have hbt := bt_at p x hlt
              have E := Lib.hid (show (bt p x != 93) = goes p x from by simp [goes, hlt])
              have hlt' : (x : Int) < (p.size : Int) := by omega
              have hd : decide ((x : Int) < (p.size : Int)) = true := by simp; omega
              go_wp2_with fail
              go_meet
              case rel => exact ⟨by rw [E.out], 0, rfl⟩
            · have hlt' : ¬ ((x : Int) < (p.size : Int)) := by omega
              have hd : decide ((x : Int) < (p.size : Int)) = false := by simp; omega
              have E := Lib.hid (show goes p x = false from by simp [goes, hlt])
              go_wp2_with fail
              go_meet
              case rel => exact ⟨by rw [E.out], 0, rfl⟩
          case rest =>
            obtain ⟨rfl, n, rfl⟩ := hcut
            cases hg : goes p x with
            | false =>
              have E := Lib.hid (rgo_stop R hg)
              clear hg
              go_wp2_with fail
              go_meet
              case rel => exact ⟨x, R, hxle, hRl, rfl, rfl, hT.drewN n, E.out.symm.trans HF.out⟩
            | true =>
              have hx := goes_lt hg
              have hb0 : ∀ w, (Instr.build 147 #[]).run Try.prog w = .ok (.agg (pc 0 nof)) w := fun w => run_build w _ _ _ builtPc0
              have hT2 := hT.drewN n
              obtain ⟨lo, hlo⟩ : ∃ lo : Nat, byteV p x = (lo : Int) := ⟨(byteV p x).toNat, by have := byteV_range p x; omega⟩
              have hlo2 : lo ≤ 255 := by have := byteV_range p x; omega
              cases hbad : escBad p x with
              | true =>
                have E := Lib.hid (brk_fail HNO.out HG.out HA.out HF.out (rgo_bad R hg hbad))
                have hno := Lib.hid (show byteOk p x = false from by unfold byteOk; rw [hg, hbad]; rfl)
                clear hg hbad
                go_wp2_with (first | (go_at_call 110; refine (rbytes_no p x _ hp hxle hno.out).mono ?_; rintro e w1 ⟨rfl, n1, rfl⟩) | refine storePc rfl _ _ rfl _ _ _ rfl rfl 0 nof hT.2.1 ?_)
                refine brk_ret A 0 nof (hT.1.drewN _) hT.2.1 rfl ?_ rfl
                rw [E.out]
                rfl
              | false =>
                have hok := Lib.hid (show byteOk p x = true from by unfold byteOk; rw [hg, hbad]; rfl)
                obtain ⟨y, hy⟩ : ∃ y, byteA p x = y := ⟨_, rfl⟩
                have hylt : x < y := by rw [← hy]; exact byteA_lt p x
                have hyle : y ≤ p.size := by rw [← hy]; exact byteA_le p x hx
                go_upto_region 12 with (go_at_call 110; refine (rbytes_ok p x _ hp hok.out).mono ?_; rw [hlo, hy]; rintro e w1 ⟨rfl, n1, rfl⟩)
                go_cut [70] (fun v70 wc => v70 = .bool (dash p y) ∧ ∃ n, wc = wr.drewN n)
                case first =>
                  by_cases hlt : y + 1 < p.size
                  · have hbt := bt_at p y (by omega)
                    have hbt1 := bt_at p (y + 1) hlt
                    have E := Lib.hid (show ((bt p y == 45) && (bt p (y + 1) != 93)) = dash p y from by simp [dash, hlt])
                    have hlt' : (y : Int) + 1 < (p.size : Int) := by omega
                    have hlt0 : (y : Int) < (p.size : Int) := by omega
                    have hd : decide ((y : Int) + 1 < (p.size : Int)) = true := by simp; omega
                    cases h45 : (bt p y == 45)
                    · have E2 := Lib.hid (show dash p y = false from by rw [← E.out, h45]; rfl)
                      go_wp2_with fail
                      go_meet
                      case rel => exact ⟨by rw [E2.out], _, rfl⟩
                    · have E2 := Lib.hid (show dash p y = (bt p (y + 1) != 93) from by rw [← E.out, h45]; rfl)
                      go_wp2_with fail
                      go_meet
                      case rel => exact ⟨by rw [E2.out], _, rfl⟩
                  · have hlt' : ¬ ((y : Int) + 1 < (p.size : Int)) := by omega
                    have hd : decide ((y : Int) + 1 < (p.size : Int)) = false := by simp; omega
                    have E := Lib.hid (show dash p y = false from by simp [dash, hlt])
                    go_wp2_with fail
                    go_meet
                    case rel => exact ⟨by rw [E.out], _, rfl⟩
                case rest =>
                  obtain ⟨rfl, n2, rfl⟩ := hcut
                  go_upto_if 70 with (fail)
                  go_cut [12, 14] (fun v12 v14 wc => ∃ y2 hi : Nat, v12 = .int .i64 (y2 : Int) ∧ v14 = .int .u8 (hi : Int) ∧ lo ≤ hi ∧ hi ≤ 255 ∧ x < y2 ∧ y2 ≤ p.size ∧ (∃ n, wc = wr.drewN n) ∧ rgo p y2 (R ++ [((lo : Int), (hi : Int))]) = G)
                  case first =>
                    cases hd : dash p y with
                    | false =>
                      have E := Lib.hid (show rgo p y (R ++ [((lo : Int), (lo : Int))]) = G from by rw [← HF.out, rgo_one R hg hbad (by rw [hy]; exact hd), hlo, hy])
                      clear hg hbad hd
                      go_wp2_with fail
                      go_meet
                      case rel => exact ⟨y, lo, rfl, rfl, Nat.le_refl _, hlo2, hylt, hyle, ⟨_, rfl⟩, E.out⟩
                    | true =>
                      have hlt := dash_lt hd
                      have hgo1 := dash_goes hd
                      obtain ⟨hi, hhi⟩ : ∃ hi : Nat, byteV p (y + 1) = (hi : Int) := ⟨(byteV p (y + 1)).toNat, by have := byteV_range p (y + 1); omega⟩
                      have hhi2 : hi ≤ 255 := by have := byteV_range p (y + 1); omega
                      obtain ⟨y2, hy2⟩ : ∃ y2, byteA p (y + 1) = y2 := ⟨_, rfl⟩
                      have hy2lt : y + 1 < y2 := by rw [← hy2]; exact byteA_lt p (y + 1)
                      have hy2le : y2 ≤ p.size := by rw [← hy2]; exact byteA_le p (y + 1) (by omega)
                      cases hbad2 : escBad p (y + 1) with
                      | true =>
                        have E := Lib.hid (brk_fail HNO.out HG.out HA.out HF.out (rgo_bad2 R hg hbad (by rw [hy]; exact hd) (by rw [hy]; exact hbad2)))
                        have hno := Lib.hid (show byteOk p (y + 1) = false from by unfold byteOk; rw [hgo1, hbad2]; rfl)
                        clear hg hbad hd hbad2 hgo1
                        go_wp2_with (first | (go_at_call 110; refine (rbytes_no p (y + 1) _ hp (by omega) hno.out).mono ?_; rintro e w1 ⟨rfl, n3, rfl⟩) | refine storePc rfl _ _ rfl _ _ _ rfl rfl 0 nof hT.2.1 ?_)
                        refine brk_ret A 0 nof (hT.1.drewN _) hT.2.1 rfl ?_ rfl
                        rw [E.out]
                        rfl
                      | false =>
                        have hok2 := Lib.hid (show byteOk p (y + 1) = true from by unfold byteOk; rw [hgo1, hbad2]; rfl)
                        by_cases hlh : hi < lo
                        · have E := Lib.hid (brk_fail HNO.out HG.out HA.out HF.out (rgo_turned R hg hbad (by rw [hy]; exact hd) (by rw [hy]; exact hbad2) (by rw [hy, hhi, hlo]; omega)))
                          have hlh' : (hi : Int) < (lo : Int) := by omega
                          have hd1 : decide ((hi : Int) < (lo : Int)) = true := by simp; omega
                          clear hg hbad hd hbad2 hgo1
                          go_wp2_with (first | (go_at_call 110; refine (rbytes_ok p (y + 1) _ hp hok2.out).mono ?_; rw [hhi, hy2]; rintro e w1 ⟨rfl, n3, rfl⟩) | refine storePc rfl _ _ rfl _ _ _ rfl rfl 0 nof hT.2.1 ?_)
                          refine brk_ret A 0 nof (hT.1.drewN _) hT.2.1 rfl ?_ rfl
                          rw [E.out]
                          rfl
                        · have E := Lib.hid (show rgo p y2 (R ++ [((lo : Int), (hi : Int))]) = G from by rw [← HF.out, rgo_two R hg hbad (by rw [hy]; exact hd) (by rw [hy]; exact hbad2) (by rw [hy, hhi, hlo]; omega), hy, hlo, hhi, hy2])
                          have hlh' : ¬ (hi : Int) < (lo : Int) := by omega
                          have hd1 : decide ((hi : Int) < (lo : Int)) = false := by simp; omega
                          clear hg hbad hd hbad2 hgo1
                          go_wp2_with (go_at_call 110; refine (rbytes_ok p (y + 1) _ hp hok2.out).mono ?_; rw [hhi, hy2]; rintro e w1 ⟨rfl, n3, rfl⟩)
                          go_meet
                          case rel => exact ⟨y2, hi, rfl, rfl, by omega, hhi2, by omega, hy2le, ⟨_, rfl⟩, E.out⟩
                  case rest =>
                    obtain ⟨y2, hi, rfl, rfl, hlh, hhi, hxy2, hy2le, ⟨n3, rfl⟩, hF2⟩ := hcut
                    have HF2 := Lib.hid hF2
                    clear hF2 hg hbad
                    have hT3 := hT.drewN n3
                    obtain ⟨w3, hw3⟩ : ∃ w3, w3 = wr.drewN n3 := ⟨_, rfl⟩
                    rw [← hw3] at hT3 ⊢
                    clear hw3
                    go_upto_block 2 with (fail)
                    go_cut [] (fun wc => Two w (inR (R ++ [((lo : Int), (hi : Int))])) wc)
                    case first =>
                      go_wp2_with fail
                      go_loopg [15] (hi + 1 - lo) (fun k v15 wq => ∃ c : Nat, k = hi + 1 - c ∧ lo ≤ c ∧ c ≤ hi + 1 ∧ v15 = .int .i64 (c : Int) ∧ Two w (fillR R lo c) wq)
                      case atStart => exact ⟨lo, rfl, Nat.le_refl _, by omega, rfl, by rw [fillR_start]; exact hT3⟩
                      case round =>
                        obtain ⟨c, hkc, hc1, hc2, rfl, hTq⟩ := hrel
                        have HKC := Lib.hid hkc
                        clear hkc
                        by_cases hch : c ≤ hi
                        · have hch' : (c : Int) ≤ (hi : Int) := by omega
                          have hd : decide ((c : Int) ≤ (hi : Int)) = true := by simp; omega
                          have h256 : (c : Int) < 256 := by omega
                          have hcell := hTq.cell c (by omega)
                          have hfree := hTq.free (1 + c)
                          have hset := hTq.set c true (fillR_step R lo c hc1)
                          go_wp2_with fail
                          go_roundg (hi + 1 - (c + 1))
                          case measure => have := HKC.out; omega
                          case rel => exact ⟨c + 1, rfl, by omega, by omega, by first | rfl | simp, hset⟩
                        · have hch' : ¬ (c : Int) ≤ (hi : Int) := by omega
                          have hd : decide ((c : Int) ≤ (hi : Int)) = false := by simp; omega
                          have E := Lib.hid (show Two w (inR (R ++ [((lo : Int), (hi : Int))])) wr from by rw [← fillR_end, show hi + 1 = c from by omega]; exact hTq)
                          go_wp2_with fail
                          go_meet
                          case rel => exact E.out
                    case rest =>
                      have hT4 := hcut
                      have hR2 : (R ++ [((lo : Int), (hi : Int))]).length = R.length + 1 := by simp
                      go_wp2_with fail
                      go_roundg (p.size - y2)
                      case measure => have := HKX.out; omega
                      case rel => exact ⟨y2, _, rfl, hy2le, by omega, rfl, by rw [hR2]; first | rfl | simp, hT4, HF2.out⟩
      case rest =>
        obtain ⟨x, R, hxle, hRl, rfl, rfl, hT, hF⟩ := hcut
        have HF := Lib.hid hF
        clear hF
        have hbld : ∀ w, (Instr.build 147 #[]).run Try.prog w = .ok (.agg (pc 0 nof)) w := fun w => run_build w _ _ _ builtPc0
        by_cases hend : x < p.size ∧ R ≠ []
        · have E := Lib.hid (brk_shut HNO.out HG.out HA.out HF.out |>.trans (if_pos hend))
          have hlt' : ¬ ((p.size : Int) ≤ (x : Int)) := by omega
          have hd : decide ((p.size : Int) ≤ (x : Int)) = false := by simp; omega
          have hRpos : 0 < R.length := List.length_pos_iff.2 hend.2
          have hR0 : ((R.length : Int) == 0) = false := by simp; exact hend.2
          clear hend hbld
          go_upto_block 4 with (fail)
          go_cut [] (fun wc => Two w (turnR R no 256) wc)
          case first =>
            go_wp2_with fail
            go_loopg [16] 256 (fun k v16 wq => ∃ c : Nat, k = 256 - c ∧ c ≤ 256 ∧ v16 = .int .i64 (c : Int) ∧ Two w (turnR R no c) wq)
            case atStart => exact ⟨0, rfl, by omega, rfl, by rw [turnR_start]; exact hT⟩
            case round =>
              obtain ⟨c, hkc, hc2, rfl, hTq⟩ := hrel
              have HKC := Lib.hid hkc
              clear hkc
              by_cases hch : c < 256
              · have hch' : (c : Int) < 256 := by omega
                have hd : decide ((c : Int) < 256) = true := by simp; omega
                obtain ⟨bb, hbb⟩ : ∃ bb, inR R c = bb := ⟨_, rfl⟩
                have hcell := hTq.cell c (by omega)
                rw [turnR_at, hbb] at hcell
                have hfree := hTq.free (1 + c)
                have e47 : ((c : Int) != 47) = (c != 47) := by rw [Bool.eq_iff_iff]; simp; omega
                have hset : Two w (turnR R no (c + 1)) (wr.setCell ⟨w.heap.size + 1, 1 + c, none⟩ (.bool ((bb != no) && ((c : Int) != 47)))) := by
                  rw [e47]
                  exact hTq.set c ((bb != no) && (c != 47)) (by rw [← hbb]; exact turnR_step R no c)
                have HS := Lib.hid hset
                clear e47 hset hbb
                cases no <;> cases bb
                all_goals
                  go_wp2_with fail
                  go_roundg (256 - (c + 1))
                  case measure => have := HKC.out; omega
                  case rel => exact ⟨c + 1, rfl, by omega, by first | rfl | simp, HS.out⟩
              · have hch' : ¬ (c : Int) < 256 := by omega
                have hd : decide ((c : Int) < 256) = false := by simp; omega
                have E2 := Lib.hid (show Two w (turnR R no 256) wr from by rw [show 256 = c from by omega]; exact hTq)
                go_wp2_with fail
                go_meet
                case rel => exact E2.out
          case rest =>
            have hT4 := hcut
            go_wp2_with (first | refine loadPc rfl _ rfl _ rfl 0 (turnR R no 256) hT4.2.2 ?_ | refine storePc rfl _ _ rfl _ _ _ rfl rfl 0 nof hT4.2.1 ?_)
            refine brk_ret A 0 (turnR R no 256) hT4.1 hT4.2.1 rfl ?_ rfl
            rw [E.out]
            show brkEnd (some (x + 1, classL R no)) = _
            unfold brkEnd
            simp only []
            rw [turnR_end]
            rfl
        · have E := Lib.hid (brk_shut HNO.out HG.out HA.out HF.out |>.trans (if_neg hend))
          by_cases hlt : x < p.size
          · have hR0 : ((R.length : Int) == 0) = true := by
              simp
              by_cases hR : R = []
              · exact hR
              · exact absurd ⟨hlt, hR⟩ hend
            have hlt' : ¬ ((p.size : Int) ≤ (x : Int)) := by omega
            have hd : decide ((p.size : Int) ≤ (x : Int)) = false := by simp; omega
            clear hend
            go_wp2_with (refine storePc rfl _ _ rfl _ _ _ rfl rfl 0 nof hT.2.1 ?_)
            refine brk_ret A 0 nof hT.1 hT.2.1 rfl ?_ rfl
            rw [E.out]
            rfl
          · have hlt' : ((p.size : Int) ≤ (x : Int)) := by omega
            have hd : decide ((p.size : Int) ≤ (x : Int)) = true := by simp; omega
            clear hend
            go_wp2_with (refine storePc rfl _ _ rfl _ _ _ rfl rfl 0 nof hT.2.1 ?_)
            refine brk_ret A 0 nof hT.1 hT.2.1 rfl ?_ rfl
            rw [E.out]
            rfl
end Go.Proofs.Ytoaopjbgaehpfaa.G
end
section
/- The reference's pieces: what a pattern is read as. -/
namespace Go.Proofs.Ytoaopjbgaehpfaa.G
open Go.RowKit
set_option linter.unusedVariables false
set_option linter.unusedSimpArgs false
/-- The place behind brackets lies behind them. -/
theorem rgo_ge (p : ByteArray) : ∀ n x R z S, p.size - x ≤ n → rgo p x R = some (z, S) → x ≤ z := by
  intro n
  induction n with
  | zero =>
    intro x R z S h e
    have hg : goes p x = false := by
      cases hg : goes p x with
      | false => rfl
      | true => have := goes_lt hg; omega
    rw [rgo_stop R hg] at e
    simp at e
    omega
  | succ n ih =>
    intro x R z S h e
    have h1 := byteA_lt p x
    have h2 := byteA_lt p (byteA p x + 1)
    rw [rgo] at e
    split at e
    · split at e
      · cases e
      · split at e
        · split at e
          · cases e
          · split at e
            · cases e
            · have := ih _ _ _ _ (by omega) e
              omega
        · have := ih _ _ _ _ (by omega) e
          omega
    · simp at e
      omega
theorem brk_gt {p : ByteArray} {fr z : Nat} {f : Int → Bool} (h : brk p fr = some (z, f)) : fr < z := by
  unfold brk at h
  split at h
  · rename_i y R hr
    have := rgo_ge p _ _ _ _ _ (Nat.le_refl _) hr
    split at h
    · simp at h
      have h1 := h.1
      split at this <;> omega
    · cases h
  · cases h
abbrev Pce := Int × (Int → Bool)
/-- A pattern's pieces from place x on: the first wrong place, or the pieces. -/
def pcsGo (p : ByteArray) (x : Nat) (l : List Pce) : Sum Nat (List Pce) :=
  if h : x < p.size then
    if bt p x = 42 then
      if x + 1 < p.size ∧ bt p (x + 1) = 42 then pcsGo p (x + 2) (l ++ [((2, fun _ => false) : Pce)])
      else pcsGo p (x + 1) (l ++ [((1, fun _ => false) : Pce)])
    else if bt p x = 63 then pcsGo p (x + 1) (l ++ [((0, fun c => c != 47) : Pce)])
    else if bt p x = 91 then
      match hb : brk p x with
      | some F => pcsGo p F.1 (l ++ [((0, F.2) : Pce)])
      | none => .inl x
    else if bt p x = 92 then
      if p.size ≤ x + 1 then .inl x else pcsGo p (x + 2) (l ++ [((0, fun c => c == bt p (x + 1)) : Pce)])
    else pcsGo p (x + 1) (l ++ [((0, fun c => c == bt p x) : Pce)])
  else .inr l
termination_by p.size - x
decreasing_by
  all_goals first
    | omega
    | (have := brk_gt (z := F.1) (f := F.2) hb; omega)
end Go.Proofs.Ytoaopjbgaehpfaa.G
end
section
/- The reference's pieces: a slice of one piece, made in place. -/
namespace Go.Proofs.Ytoaopjbgaehpfaa.G
open Go.RowKit
set_option linter.unusedVariables false
set_option linter.unusedSimpArgs false
theorem foldl_sets (L : List Value) : ∀ (k : Nat) (A : Array Value), (List.foldl (fun (cs : Array Value) (x : Value × Nat) => cs.setIfInBounds (0 + x.2) x.1) A (L.zipIdx k)).size = A.size ∧
    ∀ i, (List.foldl (fun (cs : Array Value) (x : Value × Nat) => cs.setIfInBounds (0 + x.2) x.1) A (L.zipIdx k))[i]? = if k ≤ i ∧ i < k + L.length ∧ i < A.size then L[i - k]? else A[i]? := by
  induction L with
  | nil => intro k A; refine ⟨rfl, fun i => ?_⟩; rw [if_neg (by simp; omega)]; rfl
  | cons v L ih =>
    intro k A
    obtain ⟨h1, h2⟩ := ih (k + 1) (A.setIfInBounds (0 + k) v)
    rw [List.zipIdx_cons, List.foldl_cons]
    refine ⟨by rw [h1]; simp, fun i => ?_⟩
    rw [h2 i, Array.size_setIfInBounds]
    by_cases e : i = k
    · subst e
      rw [if_neg (by omega)]
      by_cases hs : i < A.size
      · rw [if_pos ⟨by omega, by simp, hs⟩]
        simp [Array.getElem?_setIfInBounds, hs]
      · rw [if_neg (by omega)]
        simp [Array.getElem?_setIfInBounds, hs]
    · by_cases hin : k ≤ i ∧ i < k + (v :: L).length ∧ i < A.size
      · rw [if_pos hin, if_pos ⟨by omega, by have := hin.2.1; simp at this; omega, hin.2.2⟩]
        rw [show i - k = (i - (k + 1)) + 1 from by omega, List.getElem?_cons_succ]
      · rw [if_neg hin, if_neg (by simp at hin ⊢; omega)]
        rw [Array.getElem?_setIfInBounds, if_neg (by omega)]
theorem fill_all (A c : Array Value) (h : A.size = c.size) : (c.zipIdx.foldl (fun (cs : Array Value) (x : Value × Nat) => cs.setIfInBounds (0 + x.2) x.1) A) = c := by
  rw [← Array.foldl_toList, Array.toList_zipIdx]
  obtain ⟨h1, h2⟩ := foldl_sets c.toList 0 A
  apply Array.ext_getElem?
  intro i
  rw [h2 i]
  by_cases hi : i < c.size
  · rw [if_pos ⟨by omega, by simpa using hi, by omega⟩]
    simp
  · rw [if_neg (by omega), Array.getElem?_eq_none (by omega), Array.getElem?_eq_none (by omega)]
theorem run_onePc (k : Int) (f : Nat → Bool) (w : World) : (Instr.buildSlice 138 1 #[(0, .agg (pc k f))]).run Try.prog w = .ok (.slice (some ⟨w.heap.size, 0, none⟩) 1 1) (w.alloc (.cells (pc k f) 147)) := by
  have hs := sizePc k f
  rw [pc_size] at hs
  have hz := zeroPc
  have hu := Try.underlying138
  cases hq : Try.prog.info? 147 with
  | none => simp [hq] at hs
  | some i =>
    have hsz : i.size = 257 := by simpa [hq] using hs
    have hfill : ∀ A : Array Value, A.size = 257 → Instr.fill (fun i => some (i * 257, 257)) A [(0, .agg (pc k f))] = some (pc k f) := by
      intro A hA
      have h := fill_all A (pc k f) (by rw [hA, pc_size])
      simp only [Instr.fill, Value.cells, pc_size, Nat.zero_mul]
      rw [if_neg (by simp [hA])]
      exact congrArg some h
    simp [Instr.buildSlice, run_underlying hu, sizeOf, typeInfo, hq, hsz, hz, Sem.run_bind]
    rw [hfill _ (by rw [Array.size_map, Array.size_range])]
    simp [newRow, go_sem]
theorem onePc {ops : Array Oper} {rest : List Oper} {o : Oper} {a : Act} {w : World} {Q : Exit → Act → World → Prop} (hgd : o.guard = none) (x : Operand) (ho : o.op = .buildSlice 138 1 #[(0, x)])
    (k : Int) (f : Nat → Bool) (hx : a.eval x = .agg (pc k f))
    (h : wpList Try.prog ops Q rest (a.put o.dst (.slice (some ⟨w.heap.size, 0, none⟩) 1 1)) (w.alloc (.cells (pc k f) 147))) : wpList Try.prog ops Q (o :: rest) a w := by
  refine wpList_plain hgd fun _ hK => ?_
  have hm : (#[(0, x)] : Array (Nat × Operand)).map (fun (i, y) => (i, a.eval y)) = #[(0, .agg (pc k f))] := by simp [hx]
  unfold Oper.wp execOp
  simp only [ho, hm, Sem.run_bind, Sem.run_pure, Result.andThen_ok, run_onePc]
  exact hK _ _ h
end Go.Proofs.Ytoaopjbgaehpfaa.G
end
section
/- The reference's pieces: the walk. -/
namespace Go.Proofs.Ytoaopjbgaehpfaa.G
open Go.RowKit
attribute [local simp, local go_sem] alloc_drewN setCell_drewN
set_option linter.unusedVariables false
set_option linter.unusedSimpArgs false
set_option maxRecDepth 100000
def pcsCells (l : List Pce) : List Value := l.flatMap fun q => pcL q.1 (fun c => q.2 (c : Int))
theorem pcsCells_append (l m : List Pce) : pcsCells (l ++ m) = pcsCells l ++ pcsCells m := by simp [pcsCells]
def IsPcs (w : World) (base : Nat) (v : Value) (l : List Pce) : Prop := w.ownsRow base 147 257 v l.length (pcsCells l)
def PcsAt (w : World) (p : ByteArray) (G : Sum Nat (List Pce)) (k : Nat) (v5 v6 : Value) (wr : World) : Prop :=
  ∃ (x : Nat) (l : List Pce), k = p.size - x ∧ x ≤ p.size ∧ l.length ≤ x ∧ v6 = .int .i64 (x : Int) ∧ But No w wr ∧ IsPcs wr w.heap.size v5 l ∧ pcsGo p x l = G
def PcsPost (w : World) (G : Sum Nat (List Pce)) (e : Ending) (w' : World) : Prop :=
  But No w w' ∧ match G with
  | .inl z => e = .returned (.tuple #[.slice none 0 0, .int .i64 (z : Int), .bool false])
  | .inr l => ∃ v, e = .returned (.tuple #[v, .int .i64 0, .bool true]) ∧ IsPcs w' w.heap.size v l
theorem pcs_stop {p : ByteArray} {x : Nat} (l : List Pce) (h : ¬ x < p.size) : pcsGo p x l = .inr l := by rw [pcsGo, dif_neg h]
theorem pcs_all {p : ByteArray} {x : Nat} (l : List Pce) (h : x < p.size) (h1 : bt p x = 42) (h2 : x + 1 < p.size ∧ bt p (x + 1) = 42) : pcsGo p x l = pcsGo p (x + 2) (l ++ [((2, fun _ => false) : Pce)]) := by rw [pcsGo, dif_pos h, if_pos h1, if_pos h2]
theorem pcs_some {p : ByteArray} {x : Nat} (l : List Pce) (h : x < p.size) (h1 : bt p x = 42) (h2 : ¬ (x + 1 < p.size ∧ bt p (x + 1) = 42)) : pcsGo p x l = pcsGo p (x + 1) (l ++ [((1, fun _ => false) : Pce)]) := by rw [pcsGo, dif_pos h, if_pos h1, if_neg h2]
theorem pcs_quest {p : ByteArray} {x : Nat} (l : List Pce) (h : x < p.size) (h1 : bt p x = 63) : pcsGo p x l = pcsGo p (x + 1) (l ++ [((0, fun c => c != 47) : Pce)]) := by rw [pcsGo, dif_pos h, if_neg (by omega), if_pos h1]
theorem pcs_brk {p : ByteArray} {x : Nat} (l : List Pce) (h : x < p.size) (h1 : bt p x = 91) {z : Nat} {f : Int → Bool} (hb : brk p x = some (z, f)) : pcsGo p x l = pcsGo p z (l ++ [((0, f) : Pce)]) := by
  rw [pcsGo, dif_pos h, if_neg (by omega), if_neg (by omega), if_pos h1]
  split
  · rename_i F hF
    rw [hF] at hb
    injection hb with hb
    subst hb
    rfl
  · rename_i hF
    rw [hF] at hb
    cases hb
theorem pcs_brkno {p : ByteArray} {x : Nat} (l : List Pce) (h : x < p.size) (h1 : bt p x = 91) (hb : brk p x = none) : pcsGo p x l = .inl x := by
  rw [pcsGo, dif_pos h, if_neg (by omega), if_neg (by omega), if_pos h1]
  split
  · rename_i F hF
    rw [hF] at hb
    cases hb
  · rfl
theorem pcs_escno {p : ByteArray} {x : Nat} (l : List Pce) (h : x < p.size) (h1 : bt p x = 92) (h2 : p.size ≤ x + 1) : pcsGo p x l = .inl x := by rw [pcsGo, dif_pos h, if_neg (by omega), if_neg (by omega), if_neg (by omega), if_pos h1, if_pos h2]
theorem pcs_esc {p : ByteArray} {x : Nat} (l : List Pce) (h : x < p.size) (h1 : bt p x = 92) (h2 : ¬ p.size ≤ x + 1) : pcsGo p x l = pcsGo p (x + 2) (l ++ [((0, fun c => c == bt p (x + 1)) : Pce)]) := by rw [pcsGo, dif_pos h, if_neg (by omega), if_neg (by omega), if_neg (by omega), if_pos h1, if_neg h2]
theorem pcs_byte {p : ByteArray} {x : Nat} (l : List Pce) (h : x < p.size) (h1 : bt p x ≠ 42) (h2 : bt p x ≠ 63) (h3 : bt p x ≠ 91) (h4 : bt p x ≠ 92) : pcsGo p x l = pcsGo p (x + 1) (l ++ [((0, fun c => c == bt p x) : Pce)]) := by rw [pcsGo, dif_pos h, if_neg h1, if_neg h2, if_neg h3, if_neg h4]
theorem IsPcs.alloc {w : World} {base : Nat} {v : Value} {l : List Pce} (h : IsPcs w base v l) (o : Obj) : IsPcs (w.alloc o) base v l := World.ownsRow.alloc h o
theorem IsPcs.but {w w' : World} {base : Nat} {v : Value} {l : List Pce} (h : IsPcs w base v l) (hb : But No w w') : IsPcs w' base v l := own_but h hb (fun _ _ _ h => h)
def questF (c i : Nat) : Bool := decide (i < c) && (i != 47)
theorem questF_start : questF 0 = nof := by funext i; simp [questF, nof]
theorem questF_step (c : Nat) : (fun i => if i = c then (c != 47) else questF c i) = questF (c + 1) := by
  funext i
  unfold questF
  by_cases e : i = c
  · subst e
    simp
  · rw [if_neg e]
    have : (i < c + 1) ↔ i < c := by omega
    simp [this]
theorem questF_end (c : Nat) (h : c < 256) : ((c : Int) != 47) = questF 256 c := by
  have e : ((c : Int) != 47) = (c != 47) := by rw [Bool.eq_iff_iff]; simp; omega
  rw [e]
  simp [questF, h]
theorem brackets_no (p : ByteArray) (fr : Nat) (hfr : fr < p.size) (hp : p.size ≤ 256) (w : World) (h : brk p fr = none) :
    Calls Try.prog 105 #[.string p, .int .i64 (fr : Int)] w fun e w' => e = .returned (.tuple #[.agg (pc 0 nof), .int .i64 0, .bool false]) ∧ But No w w' :=
  brackets0 p fr hfr hp w _ rfl _ rfl none h
theorem brackets_ok (p : ByteArray) (fr : Nat) (hfr : fr < p.size) (hp : p.size ≤ 256) (w : World) (z : Nat) (f : Int → Bool) (F : Nat → Bool) (hF : (fun c : Nat => f (c : Int)) = F) (h : brk p fr = some (z, f)) :
    Calls Try.prog 105 #[.string p, .int .i64 (fr : Int)] w fun e w' => e = .returned (.tuple #[.agg (pc 0 F), .int .i64 (z : Int), .bool true]) ∧ But No w w' := by
  subst hF
  exact brackets0 p fr hfr hp w _ rfl _ rfl (some (z, f)) h
theorem brk_le {p : ByteArray} {fr z : Nat} {f : Int → Bool} (h : brk p fr = some (z, f)) : z ≤ p.size := by
  unfold brk at h
  split at h
  · split at h
    · simp at h
      omega
    · cases h
  · cases h
theorem eqF (v : Int) (b : Nat) (h : v = (b : Int)) (c : Nat) : ((c : Int) == v) = decide (c = b) := by
  subst h
  rw [Bool.eq_iff_iff]
  simp
  omega
theorem infoPc3 : ∃ i, Try.prog.info? 147 = some i ∧ i.zero = some (.agg (pc 0 nof)) ∧ i.size = 257 ∧ i.bytes = 264 := by
  have h := infoPc
  cases hq : Try.prog.info? 147 with
  | none => simp [hq] at h
  | some i =>
    simp only [hq, Option.map_some, Option.some.injEq, Prod.mk.injEq] at h
    exact ⟨i, rfl, h.1, h.2.1, h.2.2⟩
theorem pc_cells {w : World} {g : Nat} {k : Int} {f : Nat → Bool} (hg : w.heap[g]? = some (.cells (pc k f) 147 (0, 0))) :
    ∀ (j : Nat) u, (pcL k f)[j]? = some u → w.cell? ((⟨g, 0, none⟩ : Addr).add j) = some u := by
  intro j u h
  have hadd : (⟨g, 0, none⟩ : Addr).add j = ⟨g, j, none⟩ := by unfold Addr.add; split <;> simp_all
  rw [hadd, cell_of_row w g j _ _ _ hg, pc, List.getElem?_toArray, h]
theorem appPc {ops : Array Oper} {rest : List Oper} {o : Oper} {a : Act} {W : World} {Q : Exit → Act → World → Prop} (hgd : o.guard = none) (s y : Operand)
    (ho : o.op = .call { callee := .builtin .append, args := #[s, y], argTypes := #[138, 138] })
    (base : Nat) (v : Value) (l : List Pce) (hs : a.eval s = v) (hI : IsPcs W base v l) (g : Nat) (k : Int) (f : Nat → Bool) (hy : a.eval y = .slice (some ⟨g, 0, none⟩) 1 1)
    (hg : W.heap[g]? = some (.cells (pc k f) 147 (0, 0))) (hl : l.length ≤ 1000) (hb : base ≤ W.heap.size)
    (h : ∀ v' w', w'.ownsRow base 147 257 v' (l.length + 1) (pcsCells l ++ pcL k f) → W.grownBy w' v.ownBlock → wpList Try.prog ops Q rest (a.put o.dst v') w') : wpList Try.prog ops Q (o :: rest) a W := by
  obtain ⟨i, h1, h2, h3, h4⟩ := infoPc3
  refine wpList_append_own W hgd s y 138 ho base 147 i (.agg (pc 0 nof)) 257 264 Try.underlying138 h1 h2 h3 h4 (pc_size _ _) (by decide) v l.length (pcsCells l) hs hI
    ⟨g, 0, none⟩ 1 1 (pcL k f) hy (pcL_length _ _) (pc_cells hg) (fun u hu => pcL_one _ _ u hu) (by unfold maxLen; omega) (by omega) hb (fun v' w' h5 h6 _ => h v' w' h5 h6)
theorem PcsAt.step {w W w1 : World} {p : ByteArray} {G : Sum Nat (List Pce)} {x : Nat} {l : List Pce} {v v' : Value} (x2 : Nat) (q : Pce) (k : Int) (f : Nat → Bool) (hk : q.1 = k) (hf : ∀ c : Nat, c < 256 → q.2 (c : Int) = f c) (hx : x < x2) (hx2 : x2 ≤ p.size) (hll : l.length ≤ x) (hb : But No w W) (hI : IsPcs W w.heap.size v l)
    (ho : w1.ownsRow w.heap.size 147 257 v' (l.length + 1) (pcsCells l ++ pcL k f)) (hg : W.grownBy w1 v.ownBlock) (hF : pcsGo p x2 (l ++ [q]) = G) :
    PcsAt w p G (p.size - x2) v' (.int .i64 (x2 : Int)) w1 := by
  have e : pcL k f = pcL q.1 (fun c => q.2 (c : Int)) := by
    have h := pc_congr (k := k) (f := f) (g := fun c => q.2 (c : Int)) (fun c hc => (hf c hc).symm)
    rw [hk]
    simpa [pc] using h
  refine ⟨x2, l ++ [q], rfl, hx2, by simp; omega, rfl, hb.grow hg hI (Nat.le_refl _), ?_, hF⟩
  unfold IsPcs
  rw [List.length_append, pcsCells_append]
  rw [e] at ho
  simpa [pcsCells] using ho
set_option maxHeartbeats 16000000 in
theorem pieces0 (p : ByteArray) (hp : p.size ≤ 256) (w : World) (G : Sum Nat (List Pce)) (hG : pcsGo p 0 [] = G) :
    Calls Try.prog 98 #[.string p] w (PcsPost w G) := by
  have hp' : p.size ≤ 9223372036854775807 := by omega
  have hv := zeroPc
  have HG := Lib.hid hG
  clear hG
  go_enter Try.func98, Try.ntmps98
  go_wp2_with fail
  go_loopg [5, 6] p.size (fun k v5 v6 wr => PcsAt w p G k v5 v6 wr)
  case atStart => exact ⟨0, [], rfl, Nat.zero_le _, Nat.le_refl _, rfl, But.refl _ _, World.ownsRow_nil _ _ _ _, HG.out⟩
  case round =>
    obtain ⟨x, l, hkx, hxle, hll, rfl, hb, hI, hF⟩ := hrel
    have HF := Lib.hid hF
    have HKX := Lib.hid hkx
    clear hF hkx
    obtain ⟨A0, c0, rfl⟩ := own_slice hI
    have hbz := hb.size
    by_cases hlt : x < p.size
    · have hbt := bt_at p x hlt
      have hlt' : (x : Int) < (p.size : Int) := by omega
      have hd : decide ((x : Int) < (p.size : Int)) = true := by simp; omega
      have hb1 : ∀ w, (Instr.build 147 #[(0, .int .i64 1)]).run Try.prog w = .ok (.agg (pc 1 nof)) w := fun w => run_build w _ _ _ builtPc1
      have hb2 : ∀ w, (Instr.build 147 #[(0, .int .i64 2)]).run Try.prog w = .ok (.agg (pc 2 nof)) w := fun w => run_build w _ _ _ builtPc2
      by_cases c42 : bt p x = 42
      · have e42 : (bt p x == 42) = true := by simp [c42]
        by_cases c1a : x + 1 < p.size
        · have hbt1 := bt_at p (x + 1) c1a
          have hd1 : decide ((x : Int) + 1 < (p.size : Int)) = true := by simp; omega
          have hlt1 : (x : Int) + 1 < (p.size : Int) := by omega
          by_cases c1b : bt p (x + 1) = 42
          · have e1 : (bt p (x + 1) == 42) = true := by simp [c1b]
            have E := Lib.hid (show pcsGo p (x + 2) (l ++ [((2, fun _ => false) : Pce)]) = G from by rw [← HF.out, pcs_all l hlt c42 ⟨c1a, c1b⟩])
            clear c42 c1b HF
            go_wp2_with (first | refine onePc rfl _ rfl 2 nof rfl ?_ | (refine appPc rfl _ _ rfl w.heap.size _ l rfl (hI.alloc _) wr.heap.size 2 nof rfl (heap_alloc_new _ _) (by omega) (by simp; omega) ?_; intro v' w1 hown hgrow))

            go_roundg (p.size - (x + 2))
            case measure => have := HKX.out; omega
            case rel => exact PcsAt.step (x + 2) _ 2 nof rfl (fun _ _ => rfl) (by omega) (by omega) hll (hb.alloc _) (hI.alloc _) hown hgrow E.out
          · have e1 : (bt p (x + 1) == 42) = false := by simp [c1b]
            have E := Lib.hid (show pcsGo p (x + 1) (l ++ [((1, fun _ => false) : Pce)]) = G from by rw [← HF.out, pcs_some l hlt c42 (fun h => c1b h.2)])
            clear c42 c1b HF
            go_wp2_with (first | refine onePc rfl _ rfl 1 nof rfl ?_ | (refine appPc rfl _ _ rfl w.heap.size _ l rfl (hI.alloc _) wr.heap.size 1 nof rfl (heap_alloc_new _ _) (by omega) (by simp; omega) ?_; intro v' w1 hown hgrow))

            go_roundg (p.size - (x + 1))
            case measure => have := HKX.out; omega
            case rel => exact PcsAt.step (x + 1) _ 1 nof rfl (fun _ _ => rfl) (by omega) (by omega) hll (hb.alloc _) (hI.alloc _) hown hgrow E.out
        · have hd1 : decide ((x : Int) + 1 < (p.size : Int)) = false := by simp; omega
          have hlt1 : ¬ ((x : Int) + 1 < (p.size : Int)) := by omega
          have E := Lib.hid (show pcsGo p (x + 1) (l ++ [((1, fun _ => false) : Pce)]) = G from by rw [← HF.out, pcs_some l hlt c42 (fun h => c1a h.1)])
          clear c42 HF
          go_wp2_with (first | refine onePc rfl _ rfl 1 nof rfl ?_ | (refine appPc rfl _ _ rfl w.heap.size _ l rfl (hI.alloc _) wr.heap.size 1 nof rfl (heap_alloc_new _ _) (by omega) (by simp; omega) ?_; intro v' w1 hown hgrow))

          go_roundg (p.size - (x + 1))
          case measure => have := HKX.out; omega
          case rel => exact PcsAt.step (x + 1) _ 1 nof rfl (fun _ _ => rfl) (by omega) (by omega) hll (hb.alloc _) (hI.alloc _) hown hgrow E.out
      · have e42 : (bt p x == 42) = false := by simp [c42]
        by_cases c63 : bt p x = 63
        · have e63 : (bt p x == 63) = true := by simp [c63]
          have E := Lib.hid (show pcsGo p (x + 1) (l ++ [((0, fun c => c != 47) : Pce)]) = G from by rw [← HF.out, pcs_quest l hlt c63])
          clear c42 c63 HF
          obtain ⟨wo, rfl⟩ : ∃ wo : World, wo = wr := ⟨_, rfl⟩
          go_upto_block 3 with (fail)
          go_cut [8] (fun v8 wc => But No wo wc ∧ wc.heap[wo.heap.size]? = some (.cells (pc 0 (questF 256)) 147 (0, 0)))
          case first =>
            go_wp2_with fail
            go_loopg [8] 256 (fun k v8 wq => ∃ c : Nat, k = 256 - c ∧ c ≤ 256 ∧ v8 = .int .i64 (c : Int) ∧ But No wo wq ∧ wq.heap[wo.heap.size]? = some (.cells (pc 0 (questF c)) 147 (0, 0)))
            case atStart => exact ⟨0, rfl, by omega, rfl, (But.refl _ _).alloc _, by rw [questF_start]; exact heap_alloc_new _ _⟩
            case round =>
              obtain ⟨c, hkc, hc2, rfl, hq1, hq2⟩ := hrel
              have HKC := Lib.hid hkc
              clear hkc
              by_cases hch : c < 256
              · have hch' : (c : Int) < 256 := by omega
                have hdc : decide ((c : Int) < 256) = true := by simp; omega
                have hcell : wr.cell? ⟨wo.heap.size, 1 + c, none⟩ = some (.bool (questF c c)) := by rw [cell_of_row wr _ _ _ _ _ hq2, pc_at' _ _ _ hch]
                have hfree : wr.frozen? ⟨wo.heap.size, 1 + c, none⟩ = false := blkfree hq2 (1 + c)
                have e47 : ((c : Int) != 47) = (c != 47) := by rw [Bool.eq_iff_iff]; simp; omega
                have hset : But No wo (wr.setCell ⟨wo.heap.size, 1 + c, none⟩ (.bool ((c : Int) != 47))) ∧ (wr.setCell ⟨wo.heap.size, 1 + c, none⟩ (.bool ((c : Int) != 47))).heap[wo.heap.size]? = some (.cells (pc 0 (questF (c + 1))) 147 (0, 0)) :=
                  ⟨hq1.setCell (p := ⟨wo.heap.size, 1 + c, none⟩) (.inr (Nat.le_refl _)) _, by rw [blkset hq2 (1 + c) _, pc_set', e47, questF_step]⟩
                have HS := Lib.hid hset
                clear e47 hset
                go_wp2_with fail
                go_roundg (256 - (c + 1))
                case measure => have := HKC.out; omega
                case rel => exact ⟨c + 1, rfl, by omega, by first | rfl | simp, HS.out⟩
              · have hch' : ¬ (c : Int) < 256 := by omega
                have hdc : decide ((c : Int) < 256) = false := by simp; omega
                have E2 := Lib.hid (show wr.heap[wo.heap.size]? = some (.cells (pc 0 (questF 256)) 147 (0, 0)) from by rw [show 256 = c from by omega]; exact hq2)
                go_wp2_with fail
                go_meet
                case rel => exact ⟨hq1, E2.out⟩
          case rest =>
            obtain ⟨hq1, hq2⟩ := hcut
            have hq3 := hq1.size
            go_wp2_with (first | refine loadPc rfl _ rfl _ rfl 0 (questF 256) hq2 ?_ | refine onePc rfl _ rfl 0 (questF 256) rfl ?_ | (refine appPc rfl _ _ rfl w.heap.size _ l rfl ((hI.but hq1).alloc _) wc.heap.size 0 (questF 256) rfl (heap_alloc_new _ _) (by omega) (by simp; omega) ?_; intro v' w1 hown hgrow))
            go_roundg (p.size - (x + 1))
            case measure => have := HKX.out; omega
            case rel => exact PcsAt.step (x + 1) _ 0 (questF 256) rfl (fun c h => questF_end c h) (by omega) (by omega) hll ((hb.trans hq1).alloc _) ((hI.but hq1).alloc _) hown hgrow E.out
        · have e63 : (bt p x == 63) = false := by simp [c63]
          by_cases c91 : bt p x = 91
          · have e91 : (bt p x == 91) = true := by simp [c91]
            cases hB : brk p x with
            | none =>
              have E := Lib.hid (show Sum.inl x = G from by rw [← HF.out, pcs_brkno l hlt c91 hB])
              clear c42 c63 c91 HF
              go_wp2_with (first | (go_at_call 105; refine (brackets_no p x hlt hp _ hB).mono ?_; rintro e w1 ⟨rfl, hbw⟩) | refine storePc rfl _ _ rfl _ 0 nof rfl rfl 0 nof (heap_alloc_new _ _) ?_)
              go_ret3
              refine ⟨(hb.trans hbw).alloc _ |>.setRowR (.inr ?_) _, ?_⟩
              · have := hbw.size; omega
              · rw [← E.out]
                rfl
            | some F =>
              obtain ⟨z, f⟩ := F
              have E := Lib.hid (show pcsGo p z (l ++ [((0, f) : Pce)]) = G from by rw [← HF.out, pcs_brk l hlt c91 hB])
              have hz1 := brk_gt hB
              have hz2 := brk_le hB
              obtain ⟨Fn, hFn⟩ : ∃ Fn : Nat → Bool, (fun c : Nat => f (c : Int)) = Fn := ⟨_, rfl⟩
              have HFn := Lib.hid hFn
              have HBr := Lib.hid hB
              clear c42 c63 c91 HF hFn hB
              go_wp2_with (first | (go_at_call 105; refine (brackets_ok p x hlt hp _ z f Fn HFn.out HBr.out).mono ?_; rintro e w1 ⟨rfl, hbw⟩) | refine storePc rfl _ _ rfl _ 0 Fn rfl rfl 0 nof (heap_alloc_new _ _) ?_ | refine loadPc rfl _ rfl _ rfl 0 Fn (setRow_heap _ _ _ _ _ _ (heap_alloc_new _ _)) ?_ | refine onePc rfl _ rfl 0 Fn rfl ?_ | (refine appPc rfl _ _ rfl w.heap.size _ l rfl (hI.but (((hbw.alloc _).setRowR (.inr (by have := hbw.size; exact this)) _).alloc _)) _ 0 Fn rfl (heap_alloc_new _ _) (by omega) (by have := hbw.size; simp; omega) ?_; intro v' w2 hown hgrow))
              go_roundg (p.size - z)
              case measure => have := HKX.out; omega
              case rel => exact PcsAt.step z _ 0 Fn rfl (fun c _ => congrFun HFn.out c) (by omega) (by omega) hll (hb.trans (((hbw.alloc _).setRowR (.inr (by have := hbw.size; exact this)) _).alloc _)) (hI.but (((hbw.alloc _).setRowR (.inr (by have := hbw.size; exact this)) _).alloc _)) hown hgrow E.out
          · have e91 : (bt p x == 91) = false := by simp [c91]
            by_cases c92 : bt p x = 92
            · have e92 : (bt p x == 92) = true := by simp [c92]
              by_cases c1a : p.size ≤ x + 1
              · have hd1 : decide ((p.size : Int) ≤ (x : Int) + 1) = true := by simp; omega
                have hlt1 : (p.size : Int) ≤ (x : Int) + 1 := by omega
                have E := Lib.hid (show Sum.inl x = G from by rw [← HF.out, pcs_escno l hlt c92 c1a])
                clear c42 c63 c91 c92 HF
                go_wp2_with fail
                go_ret3
                exact ⟨hb, by rw [← E.out]; rfl⟩
              · have hd1 : decide ((p.size : Int) ≤ (x : Int) + 1) = false := by simp; omega
                have hlt1 : ¬ (p.size : Int) ≤ (x : Int) + 1 := by omega
                have hlt2 : (x : Int) + 1 < (p.size : Int) := by omega
                have hbt1 := bt_at p (x + 1) (by omega)
                obtain ⟨b, hbb⟩ : ∃ b : Nat, bt p (x + 1) = (b : Int) := ⟨(bt p (x + 1)).toNat, by have := bt_range p (x + 1); omega⟩
                have hb256 : b < 256 := by have := bt_range p (x + 1); omega
                have E := Lib.hid (show pcsGo p (x + 2) (l ++ [((0, fun c => c == bt p (x + 1)) : Pce)]) = G from by rw [← HF.out, pcs_esc l hlt c92 c1a])
                have HBB := Lib.hid hbb
                rw [hbb] at hbt1
                clear c42 c63 c91 c92 HF hbb
                go_wp2_with (first | (go_at_call 106; refine (single0 b hb256 _).mono ?_; rintro e w1 ⟨rfl, hbw⟩) | refine onePc rfl _ rfl 0 (fun c => decide (c = b)) rfl ?_ | (refine appPc rfl _ _ rfl w.heap.size _ l rfl ((hI.but hbw).alloc _) w1.heap.size 0 (fun c => decide (c = b)) rfl (heap_alloc_new _ _) (by omega) (by have := hbw.size; simp; omega) ?_; intro v' w2 hown hgrow))
                go_roundg (p.size - (x + 2))
                case measure => have := HKX.out; omega
                case rel => exact PcsAt.step (x + 2) _ 0 (fun c => decide (c = b)) rfl (fun c _ => eqF _ b HBB.out c) (by omega) (by omega) hll ((hb.trans hbw).alloc _) ((hI.but hbw).alloc _) hown hgrow E.out
            · have e92 : (bt p x == 92) = false := by simp [c92]
              obtain ⟨b, hbb⟩ : ∃ b : Nat, bt p x = (b : Int) := ⟨(bt p x).toNat, by have := bt_range p x; omega⟩
              have hb256 : b < 256 := by have := bt_range p x; omega
              have E := Lib.hid (show pcsGo p (x + 1) (l ++ [((0, fun c => c == bt p x) : Pce)]) = G from by rw [← HF.out, pcs_byte l hlt c42 c63 c91 c92])
              have HBB := Lib.hid hbb
              rw [hbb] at hbt e42 e63 e91 e92
              clear c42 c63 c91 c92 HF hbb
              go_wp2_with (first | (go_at_call 106; refine (single0 b hb256 _).mono ?_; rintro e w1 ⟨rfl, hbw⟩) | refine onePc rfl _ rfl 0 (fun c => decide (c = b)) rfl ?_ | (refine appPc rfl _ _ rfl w.heap.size _ l rfl ((hI.but hbw).alloc _) w1.heap.size 0 (fun c => decide (c = b)) rfl (heap_alloc_new _ _) (by omega) (by have := hbw.size; simp; omega) ?_; intro v' w2 hown hgrow))
              go_roundg (p.size - (x + 1))
              case measure => have := HKX.out; omega
              case rel => exact PcsAt.step (x + 1) _ 0 (fun c => decide (c = b)) rfl (fun c _ => eqF _ b HBB.out c) (by omega) (by omega) hll ((hb.trans hbw).alloc _) ((hI.but hbw).alloc _) hown hgrow E.out
    · have E := Lib.hid (show Sum.inr l = G from by rw [← HF.out, pcs_stop l hlt])
      have hlt' : ¬ (x : Int) < (p.size : Int) := by omega
      have hd : decide ((x : Int) < (p.size : Int)) = false := by simp; omega
      go_wp2_with fail
      go_ret3
      refine ⟨hb, ?_⟩
      rw [← E.out]
      exact ⟨_, rfl, hI⟩
end Go.Proofs.Ytoaopjbgaehpfaa.G
end
section
/- The reference's wire: a number in its bytes. -/
namespace Go.Proofs.Ytoaopjbgaehpfaa.G
open Go.RowKit
attribute [local simp, local go_sem] alloc_drewN setCell_drewN
set_option linter.unusedVariables false
set_option linter.unusedSimpArgs false
set_option maxRecDepth 100000
/-- From the block base on. -/
abbrev Up (base : Nat) : Nat → Prop := fun k => base ≤ k
theorem up_no {base : Nat} {w0 w w' : World} (h0 : But No w0 w) (hb : w0.heap.size ≤ base) (h : But (Up base) w w') : But No w0 w' := h0.trans_ h (fun k hk hs => by have hs' : base ≤ k := hs; omega)
/-- What a writing to an own row of bytes leaves. -/
structure Wrote (base : Nat) (w : World) (l : List Int) (v : Value) (w' : World) : Prop where
  own : byE.Own w' base v l
  up : But (Up base) w w'
  held : HeldS [5] w w'
theorem HeldS.refl (bad : List TypeId) (w : World) : HeldS bad w w := fun _ _ _ _ _ => rfl
theorem Wrote.trans {base : Nat} {w w1 w2 : World} {l l' : List Int} {v v' : Value} (h : Wrote base w l v w1) (h' : Wrote base w1 l' v' w2) : Wrote base w l' v' w2 := ⟨h'.own, h.up.trans h'.up, h.held.trans h'.held⟩
/-- One byte more. -/
theorem wrote_push {base : Nat} {w W w' : World} {l : List Int} {v v' : Value} {o : Obj} {x : Int} (h : Wrote base w l v W) (hown : byE.Own w' base v' (l ++ [x])) (hg : (W.alloc o).grownBy w' v.ownBlock) (hb : base ≤ W.heap.size) : Wrote base w (l ++ [x]) v' w' := by
  have ho := h.own.alloc o
  refine ⟨hown, (h.up.trans ((But.refl (Up base) W).alloc o)).grown hg (fun k hk => .inl (ho.lt k hk).1), h.held.trans (((heldS_new ((But.refl No W).alloc o))).trans (heldS_grow hg (fun k e => by obtain ⟨cs, hc⟩ := typed_own ho k e; exact ⟨cs, _, hc, by simp⟩)))⟩
theorem and127 {n : Int} (h : In28 n) : bits .and .i64 n 127 = n % 128 := by
  obtain ⟨a, rfl⟩ : ∃ a : Nat, n = (a : Int) := ⟨n.toNat, by have := h.1; omega⟩
  have h2 := h.2
  unfold bits
  dsimp only
  have ha : (BitVec.ofInt IntKind.i64.bits (a : Int)).toNat = a := by
    show (BitVec.ofInt 64 (a : Int)).toNat = a
    rw [BitVec.toNat_ofInt]
    omega
  have hb : (BitVec.ofInt IntKind.i64.bits (127 : Int)).toNat = 127 := by decide
  rw [BitVec.toNat_and, ha, hb, show (127 : Nat) = 2 ^ 7 - 1 from rfl, Nat.and_two_pow_sub_one_eq_mod, IntKind.wrap_i64]
  omega
theorem or128 {m : Int} (h : 0 ≤ m ∧ m < 128) : bits .or .i64 m 128 = m + 128 := by
  have h1 : ∀ k : Fin 128, bits .or .i64 ((k.val : Nat) : Int) 128 = ((k.val : Nat) : Int) + 128 := by decide
  have h2 := h1 ⟨m.toNat, by omega⟩
  rw [show (((⟨m.toNat, by omega⟩ : Fin 128).val : Nat) : Int) = m from by show ((m.toNat : Nat) : Int) = _; omega] at h2
  exact h2
def N18At (w : World) (base : Nat) (L : List Int) (gk : Nat) (v0 v1 : Value) (wr : World) : Prop :=
  ∃ n : Int, ∃ l : List Int, gk = n.toNat ∧ v1 = .int .i64 n ∧ 0 ≤ n ∧ n < 268435456 ∧ L = l ++ numW n ∧ Wrote base w l v0 wr
set_option maxHeartbeats 4000000 in
theorem number18 (base : Nat) (v : Value) (l : List Int) (n : Int) (w : World) (hO : byE.Own w base v l) (hn : In28 n) (hl : l.length ≤ 10000000000000) (hb : base ≤ w.heap.size) :
    Calls Try.prog 23 #[v, .int .i64 n] w fun e w' => ∃ v', e = .returned v' ∧ Wrote base w (l ++ numW n) v' w' := by
  have HW0 := Lib.hid (show Wrote base w l v w from ⟨hO, But.refl _ _, HeldS.refl _ _⟩)
  obtain ⟨hn1, hn2⟩ := hn
  clear hO
  go_enter Try.func23, Try.ntmps23
  go_wp2_with fail
  go_loopg [0, 1] n.toNat (fun gk v0 v1 wr => N18At w base (l ++ numW n) gk v0 v1 wr)
  case atStart => exact ⟨n, l, rfl, rfl, hn1, hn2, rfl, HW0.out⟩
  case round =>
    obtain ⟨m, l2, hgk, rfl, hm1, hm2, hL, hW⟩ := hrel
    have HGK := Lib.hid hgk
    have HW := Lib.hid hW
    have hl2 : l2.length + 4 ≤ 10000000000010 := by
      have h1 := congrArg List.length hL
      rw [List.length_append, List.length_append] at h1
      have := numW_len m
      have := numW_len n
      omega
    have HL := Lib.hid hL
    have hws := Nat.le_trans hb hW.up.size
    clear hgk hW hL
    by_cases c1 : 128 ≤ m
    · have d1 : decide (128 ≤ m) = true := decide_eq_true c1
      have t1 := and127 ⟨hm1, hm2⟩
      have t2 := or128 (m := m % 128) (by omega)
      have t3 : IntKind.u8.wrap (m % 128 + 128) = m % 128 + 128 := by rw [IntKind.wrap_u8]; omega
      have HNS := Lib.hid (numW_step (n := m) (by omega) hm2)
      go_wp2_with (at_builtin; go_loud (refine byE.append1L rfl _ _ rfl rfl base _ l2 rfl (HW.out.own.alloc _) wr.heap.size (m % 128 + 128) #[.int .u8 (m % 128 + 128)] rfl rfl ?hrow (by show (l2.length + 1) * (1 + 1) ≤ _; omega) (by simp; omega) ?_); (case hrow => exact heap_alloc_new wr _); intro g2 c2 w2 hown hgrow _; (have HX := Lib.hid (wrote_push HW.out hown hgrow hws)); clear hown hgrow)
      go_roundg (m / 128).toNat
      case measure => rw [HGK.out]; omega
      case rel => exact ⟨m / 128, l2 ++ [m % 128 + 128], rfl, rfl, by omega, by omega, by rw [HL.out, HNS.out, List.append_assoc]; rfl, HX.out⟩
    · have d1 : decide (128 ≤ m) = false := decide_eq_false c1
      have t3 : IntKind.u8.wrap m = m := by rw [IntKind.wrap_u8]; omega
      have HNS := Lib.hid (show numW m = [m] from if_pos (by omega))
      go_wp2_with (at_builtin; go_loud (refine byE.append1L rfl _ _ rfl rfl base _ l2 rfl (HW.out.own.alloc _) wr.heap.size m #[.int .u8 m] rfl rfl ?hrow (by show (l2.length + 1) * (1 + 1) ≤ _; omega) (by simp; omega) ?_); (case hrow => exact heap_alloc_new wr _); intro g2 c2 w2 hown hgrow _; (have HX := Lib.hid (wrote_push HW.out hown hgrow hws)); clear hown hgrow)
      go_ret
      have e : l ++ numW n = l2 ++ [m] := by rw [HL.out, HNS.out]
      rw [e]
      exact ⟨_, rfl, HX.out⟩
end Go.Proofs.Ytoaopjbgaehpfaa.G
end
