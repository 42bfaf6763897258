/- Texts of this claim, joined: words and laws that the others use. -/
import Derived.Test.YtoaopjbgaehpfaaQMo
import Derived.Deep.DeepCutAuto
import Derived.Test.YtoaopjbgaehpfaaQMl
section
/- SamePlan: two plans held against one another. -/
namespace Go.Proofs.Ytoaopjbgaehpfaa.G
open Go.RowKit
attribute [local simp, local go_sem] alloc_drewN setCell_drewN
set_option linter.unusedVariables false
set_option linter.unusedSimpArgs false
set_option maxRecDepth 100000
theorem job_ext {j j' : JobP} (h1 : j.one.name = j'.one.name) (h2 : j.one.run = j'.one.run) (h3 : j.one.stage = j'.one.stage) (h4 : j.one.when_ = j'.one.when_) (h5 : j.allow = j'.allow) (h6 : j.one.weight = j'.one.weight) (h7 : j.rules = j'.rules) (h8 : j.vars = j'.vars) (h9 : j.preds = j'.preds) : j = j' := by
  obtain ⟨⟨a, b, c, d, e⟩, f, g, i, k⟩ := j
  obtain ⟨⟨a', b', c', d', e'⟩, f', g', i', k'⟩ := j'
  simp only at h1 h2 h3 h4 h5 h6 h7 h8 h9
  subst h1 h2 h3 h4 h5 h6 h7 h8 h9
  rfl
def SmAt (w : World) (At Aj At' Aj' : Option Addr) (nt ct nj cj ct' cj' : Nat) (js js' : List JobP) (gk : Nat) (v : Value) (wr : World) : Prop :=
  ∃ i : Nat, gk = nj - i ∧ i ≤ nj ∧ v = .int .i64 (i : Int) ∧ But No w wr ∧ wr.heap[w.heap.size]? = some (.cells #[.slice At nt ct, .slice Aj nj cj] 25 (0, 0)) ∧ wr.heap[w.heap.size + 1]? = some (.cells #[.slice At' nt ct', .slice Aj' nj cj'] 25 (0, 0)) ∧ js.take i = js'.take i
def SmRAt (W : World) (j j' : JobP) (gk : Nat) (v : Value) (ws : World) : Prop :=
  ∃ k : Nat, gk = j.rules.length - k ∧ k ≤ j.rules.length ∧ v = .int .i64 (k : Int) ∧ (∃ q, ws = W.drewN q) ∧ j.rules.take k = j'.rules.take k
set_option maxHeartbeats 8000000 in
theorem samePlan0 {w : World} {At Aj At' Aj' : Option Addr} {ts ts' : List ByteArray} {js js' : List JobP} (ct cj ct' cj' : Nat) (h : PlanIn w At ts Aj js) (h' : PlanIn w At' ts' Aj' js') :
    Calls Try.prog 13 #[.agg #[.slice At ts.length ct, .slice Aj js.length cj], .agg #[.slice At' ts'.length ct', .slice Aj' js'.length cj']] w fun e w' => ∃ b : Bool, e = .returned (.bool b) ∧ (b = true ↔ ts = ts' ∧ js = js') ∧ But No w w' := by
  have H := Lib.hid h
  have H' := Lib.hid h'
  clear h h'
  have HS := Lib.hid (fun W (hW : But No w W) => sameTexts0 At At' ct ct' ts ts' W (strsIn_lies (H.out.but hW).texts) (strsIn_lies (H'.out.but hW).texts) H.out.tl H'.out.tl)
  by_cases hts : ts = ts'
  case neg =>
    have e1 : eqB ts ts' = false := decide_eq_false hts
    have E := Lib.hid (show ¬ (ts = ts' ∧ js = js') from fun h => hts h.1)
    have E1 := Lib.hid e1
    clear hts e1
    go_enter Try.func13, Try.ntmps13
    go_wp2_with (first | (go_at_call 32; refine (HS.out _ (((But.refl No w).alloc _).alloc _)).mono ?_; rintro e w1 ⟨rfl, hq1⟩; rw [E1.out]; (have HB1 := Lib.hid ((((But.refl No w).alloc _).alloc _).trans (drewn_but hq1))); clear hq1))
    go_ret
    exact ⟨false, rfl, ⟨fun h => (by cases h), fun h => absurd h E.out⟩, HB1.out⟩
  have e1 : eqB ts ts' = true := decide_eq_true hts
  have E1 := Lib.hid e1
  by_cases hjl : js.length = js'.length
  case neg =>
    have hne : ((js.length : Int) != (js'.length : Int)) = true := by simpa using fun e : (js.length : Int) = (js'.length : Int) => hjl (by omega)
    have hn1 : ¬ (js.length : Int) = (js'.length : Int) := fun e => hjl (by omega)
    have hl1 := H.out.jl
    have hl2 := H'.out.jl
    have E := Lib.hid (show ¬ (ts = ts' ∧ js = js') from fun h => hjl (by rw [h.2]))
    clear hts e1 hjl
    go_enter Try.func13, Try.ntmps13
    go_wp2_with (first | (go_at_call 32; refine (HS.out _ (((But.refl No w).alloc _).alloc _)).mono ?_; rintro e w1 ⟨rfl, ⟨q1, rfl⟩⟩; rw [E1.out]))
    go_ret
    exact ⟨false, rfl, ⟨fun h => (by cases h), fun h => absurd h E.out⟩, (((But.refl No w).alloc _).alloc _).drewN q1⟩
  have HTS := Lib.hid hts
  have HJL := Lib.hid hjl
  have hl1 := H.out.jl
  obtain ⟨nt, hnt⟩ : ∃ n, ts.length = n := ⟨_, rfl⟩
  obtain ⟨nj, hnj⟩ : ∃ n, js.length = n := ⟨_, rfl⟩
  have HNJ := Lib.hid hnj
  have hnt' : ts'.length = nt := by rw [← hts]; exact hnt
  have hnj' : js'.length = nj := by rw [← hjl]; exact hnj
  have HNJ' := Lib.hid hnj'
  rw [hnt, hnj, hnt', hnj']
  rw [hnt, hnt'] at HS
  rw [hnj] at hl1
  obtain ⟨B, hB⟩ : ∃ B : Bool, (B = true ↔ ts = ts' ∧ js = js') := by
    by_cases hq : ts = ts' ∧ js = js'
    · exact ⟨true, ⟨fun _ => hq, fun _ => rfl⟩⟩
    · exact ⟨false, ⟨fun h => (by cases h), fun h => absurd h hq⟩⟩
  have HB := Lib.hid hB
  clear hts e1 hjl hnt hnj hnt' hnj' hB
  suffices hsuf : Calls Try.prog 13 #[.agg #[.slice At nt ct, .slice Aj nj cj], .agg #[.slice At' nt ct', .slice Aj' nj cj']] w fun e w' => e = .returned (.bool B) ∧ But No w w' from hsuf.mono fun e w' h => ⟨B, h.1, HB.out, h.2⟩
  go_enter Try.func13, Try.ntmps13
  go_wp2_with (first | (go_at_call 32; refine (HS.out _ (((But.refl No w).alloc _).alloc _)).mono ?_; rintro e w1 ⟨rfl, ⟨q1, rfl⟩⟩; rw [E1.out]))
  go_loopg [5] nj (fun gk v wr => SmAt w At Aj At' Aj' nt ct nj cj ct' cj' js js' gk v wr)
  case atStart => exact ⟨0, rfl, Nat.zero_le _, rfl, (((But.refl No w).alloc _).alloc _).drewN q1, blkold (heap_alloc_new w _) _, blkb w _ _, rfl⟩
  case round =>
    obtain ⟨wo, rfl⟩ : ∃ x, x = wr := ⟨_, rfl⟩
    obtain ⟨i, hgk, hi, rfl, hbw, hb1, hb2, htk⟩ := hrel
    have HGK := Lib.hid hgk
    have HBW := Lib.hid hbw
    have HB1 := Lib.hid hb1
    have HB2 := Lib.hid hb2
    have HTK := Lib.hid htk
    have p1 : wo.cell? ⟨w.heap.size, 1, none⟩ = some (.slice Aj nj cj) := blkcell hb1 1 (by simp)
    have r1 : wo.cell? ⟨w.heap.size + 1, 1, none⟩ = some (.slice Aj' nj cj') := blkcell hb2 1 (by simp)
    clear hgk hbw hb1 hb2 htk
    by_cases hlt : i < nj
    · have hlt' : (i : Int) < (nj : Int) := by omega
      have dl : decide ((i : Int) < (nj : Int)) = true := decide_eq_true hlt'
      have hij : i < js.length := by rw [HNJ.out]; exact hlt
      have hij' : i < js'.length := by rw [HNJ'.out]; exact hlt
      obtain ⟨ad, hA, Ar, Av, Ap, cr, cv, cp, hJ⟩ := (H.out.but HBW.out).jobs i hij
      obtain ⟨ad', hA', Ar', Av', Ap', cr', cv', cp', hJ'⟩ := (H'.out.but HBW.out).jobs i hij'
      subst hA hA'
      obtain ⟨j, hj⟩ : ∃ j, js[i] = j := ⟨_, rfl⟩
      obtain ⟨j', hj'⟩ : ∃ j, js'[i] = j := ⟨_, rfl⟩
      have HF := Lib.hid (H.out.fits j (hj ▸ List.getElem_mem hij))
      have HF' := Lib.hid (H'.out.fits j' (hj' ▸ List.getElem_mem hij'))
      rw [hj] at hJ
      rw [hj'] at hJ'
      have HJ := Lib.hid hJ
      have HJ' := Lib.hid hJ'
      have HBAD := Lib.hid (fun (hne : j ≠ j') => show B = false from by
        cases hb : B with
        | false => rfl
        | true =>
          refine absurd ?_ hne
          have := (HB.out.1 hb).2
          subst this
          rw [← hj, ← hj'])
      have HNX := Lib.hid (fun (he : j = j') => show js.take (i + 1) = js'.take (i + 1) from take_next hij hij' HTK.out (by rw [hj, hj']; exact he))
      have c0 := hJ.c0
      have g0 := hJ'.c0
      have c1 := hJ.c1
      have g1 := hJ'.c1
      have c2 := hJ.c2
      have g2 := hJ'.c2
      have c3 := hJ.c3
      have g3 := hJ'.c3
      have c4 := hJ.c4
      have g4 := hJ'.c4
      have c5 := hJ.c5
      have g5 := hJ'.c5
      have c6 := hJ.c6
      have g6 := hJ'.c6
      have c7 := hJ.c7
      have g7 := hJ'.c7
      have c8 := hJ.c8
      have g8 := hJ'.c8
      clear hj hj' hij hij'
      go_upto_region 6 with (fail)
      go_cut [6, 7] (fun v6 v7 wc => ∃ p q : Nat, v6 = .pointer (some ⟨p, 0, none⟩) ∧ v7 = .pointer (some ⟨q, 0, none⟩) ∧ But No wo wc ∧ wc.heap[p]? = some (.cells (jobCs j (.slice Ar j.rules.length cr) (.slice Av j.vars.length cv) (.slice Ap j.preds.length cp)) 52 (0, 0)) ∧ wc.heap[q]? = some (.cells (jobCs j' (.slice Ar' j'.rules.length cr') (.slice Av' j'.vars.length cv') (.slice Ap' j'.preds.length cp')) 52 (0, 0)))
      case first =>
        refine wp_region_held_drew (S := fun w' => But No wo w') (by kernel_rfl) ((But.refl No wo).drew) (fun hS => ?_)
        refine takeD 0 (some 31) rfl rfl (by kernel_rfl) (by kernel_rfl) (by kernel_rfl) (fun _ _ _ h => h) (Or.inl ⟨by kernel_rfl, fun w e1 => by go_simp <;> (with_reducible rfl)⟩) hS ?_
        simp only [Act.put, List.setIfInBounds_toArray, List.set_cons_zero, List.set_cons_succ]
        refine takeD 1 (some 32) rfl rfl (by kernel_rfl) (by kernel_rfl) (by kernel_rfl) (fun _ _ _ h => h) (Or.inl ⟨by kernel_rfl, fun w e1 => by have z0 := e1.cell_some p1 (fun c => c); go_simp <;> (with_reducible rfl)⟩) hS ?_
        simp only [Act.put, List.setIfInBounds_toArray, List.set_cons_zero, List.set_cons_succ]
        refine takeD 2 (some 33) rfl rfl (by kernel_rfl) (by kernel_rfl) (by kernel_rfl) (fun _ _ _ h => h) (Or.inl ⟨by kernel_rfl, fun w e1 => by go_simp <;> (with_reducible rfl)⟩) hS ?_
        simp only [Act.put, List.setIfInBounds_toArray, List.set_cons_zero, List.set_cons_succ]
        refine takeD 3 (some 34) rfl rfl (by kernel_rfl) (by kernel_rfl) (by kernel_rfl) (fun _ _ _ h => h) (Or.inl ⟨by kernel_rfl, fun w e1 => by go_simp <;> (with_reducible rfl)⟩) hS ?_
        simp only [Act.put, List.setIfInBounds_toArray, List.set_cons_zero, List.set_cons_succ]
        refine takeD 4 (some 35) rfl rfl (by kernel_rfl) (by kernel_rfl) (by kernel_rfl) (fun _ _ _ h => h) (Or.inl ⟨by kernel_rfl, fun w e1 => by have z0 := e1.cell_some c0 (fun c => c); have z1 := e1.cell_some c1 (fun c => c); have z2 := e1.cell_some c2 (fun c => c); have z3 := e1.cell_some c3 (fun c => c); have z4 := e1.cell_some c4 (fun c => c); have z5 := e1.cell_some c5 (fun c => c); have z6 := e1.cell_some c6 (fun c => c); have z7 := e1.cell_some c7 (fun c => c); have z8 := e1.cell_some c8 (fun c => c); go_simp <;> (with_reducible rfl)⟩) hS ?_
        simp only [Act.put, List.setIfInBounds_toArray, List.set_cons_zero, List.set_cons_succ]
        refine takeD 5 (some 36) rfl rfl (by kernel_rfl) (by kernel_rfl) (by kernel_rfl) (fun _ _ _ h => h) (Or.inl ⟨by kernel_rfl, fun w e1 => by go_simp <;> (with_reducible rfl)⟩) hS ?_
        simp only [Act.put, List.setIfInBounds_toArray, List.set_cons_zero, List.set_cons_succ]
        refine takeD 6 (some 37) rfl rfl (by kernel_rfl) (by kernel_rfl) (by kernel_rfl) (fun _ _ _ h => h) (Or.inl ⟨by kernel_rfl, fun w e1 => by have z0 := e1.cell_some r1 (fun c => c); go_simp <;> (with_reducible rfl)⟩) hS ?_
        simp only [Act.put, List.setIfInBounds_toArray, List.set_cons_zero, List.set_cons_succ]
        refine takeD 7 (some 38) rfl rfl (by kernel_rfl) (by kernel_rfl) (by kernel_rfl) (fun _ _ _ h => h) (Or.inl ⟨by kernel_rfl, fun w e1 => by go_simp <;> (with_reducible rfl)⟩) hS ?_
        simp only [Act.put, List.setIfInBounds_toArray, List.set_cons_zero, List.set_cons_succ]
        refine takeD 8 (some 39) rfl rfl (by kernel_rfl) (by kernel_rfl) (by kernel_rfl) (fun _ _ _ h => h) (Or.inl ⟨by kernel_rfl, fun w e1 => by go_simp <;> (with_reducible rfl)⟩) hS ?_
        simp only [Act.put, List.setIfInBounds_toArray, List.set_cons_zero, List.set_cons_succ]
        refine takeD 9 (some 40) rfl rfl (by kernel_rfl) (by kernel_rfl) (by kernel_rfl) (fun _ _ _ h => h) (Or.inl ⟨by kernel_rfl, fun w e1 => by have z0 := e1.cell_some g0 (fun c => c); have z1 := e1.cell_some g1 (fun c => c); have z2 := e1.cell_some g2 (fun c => c); have z3 := e1.cell_some g3 (fun c => c); have z4 := e1.cell_some g4 (fun c => c); have z5 := e1.cell_some g5 (fun c => c); have z6 := e1.cell_some g6 (fun c => c); have z7 := e1.cell_some g7 (fun c => c); have z8 := e1.cell_some g8 (fun c => c); go_simp <;> (with_reducible rfl)⟩) hS ?_
        simp only [Act.put, List.setIfInBounds_toArray, List.set_cons_zero, List.set_cons_succ]
        refine wpAnyH_ready (rs := [10, 11]) (by kernel_rfl) (by simp) (AllReadyH.cons rfl (fun K10 hK10 => ?_) (AllReadyH.cons rfl (fun K11 hK11 => ?_) AllReadyH.nil))
        · skip
          rw [if_pos (by kernel_rfl)]
          go_simp
          refine hK10.out _ _ (((But.refl No wo).drew).alloc _) (fun hS => ?_)
          try simp only [Act.put, List.setIfInBounds_toArray, List.set_cons_zero, List.set_cons_succ, List.getElem_toArray, List.getElem_cons_zero, List.getElem_cons_succ]
          refine wpAnyH_ready (rs := [11]) (by kernel_rfl) (by simp) (AllReadyH.cons rfl (fun K11 hK11 => ?_) AllReadyH.nil)
          rw [if_pos (by kernel_rfl)]
          go_simp
          refine hK11.out _ _ ((((But.refl No wo).drew).alloc _).alloc _) (fun hS => ?_)
          try simp only [Act.put, List.setIfInBounds_toArray, List.set_cons_zero, List.set_cons_succ, List.getElem_toArray, List.getElem_cons_zero, List.getElem_cons_succ]
          refine wpAnyH_ready (rs := [12]) (by kernel_rfl) (by simp) (AllReadyH.cons rfl (fun K12 hK12 => ?_) AllReadyH.nil)
          rw [if_pos (by kernel_rfl)]
          go_simp
          refine hK12.out _ _ ((((But.refl No wo).alloc _).alloc _).drew) (fun hS => ?_)
          try simp only [Act.put, List.setIfInBounds_toArray, List.set_cons_zero, List.set_cons_succ, List.getElem_toArray, List.getElem_cons_zero, List.getElem_cons_succ]
          refine wpAnyH_ready (rs := [13]) (by kernel_rfl) (by simp) (AllReadyH.cons rfl (fun K13 hK13 => ?_) AllReadyH.nil)
          rw [if_pos (by kernel_rfl)]
          go_simp
          refine hK13.out _ _ ((((But.refl No wo).alloc _).alloc _).drew) (fun hS => ?_)
          try simp only [Act.put, List.setIfInBounds_toArray, List.set_cons_zero, List.set_cons_succ, List.getElem_toArray, List.getElem_cons_zero, List.getElem_cons_succ]
          refine wpAnyH_done (by kernel_rfl) ?_ _
          go_wp2_with fail
          go_meet
          case rel => exact ⟨wo.heap.size, wo.heap.size + 1, rfl, rfl, (((But.refl No wo).alloc _).alloc _).drew, drewH (blkold (heap_alloc_new wo _) _), drewH (blkb wo _ _)⟩
        · skip
          rw [if_pos (by kernel_rfl)]
          go_simp
          refine hK11.out _ _ (((But.refl No wo).drew).alloc _) (fun hS => ?_)
          try simp only [Act.put, List.setIfInBounds_toArray, List.set_cons_zero, List.set_cons_succ, List.getElem_toArray, List.getElem_cons_zero, List.getElem_cons_succ]
          refine wpAnyH_ready (rs := [10]) (by kernel_rfl) (by simp) (AllReadyH.cons rfl (fun K10 hK10 => ?_) AllReadyH.nil)
          rw [if_pos (by kernel_rfl)]
          go_simp
          refine hK10.out _ _ ((((But.refl No wo).drew).alloc _).alloc _) (fun hS => ?_)
          try simp only [Act.put, List.setIfInBounds_toArray, List.set_cons_zero, List.set_cons_succ, List.getElem_toArray, List.getElem_cons_zero, List.getElem_cons_succ]
          refine wpAnyH_ready (rs := [12]) (by kernel_rfl) (by simp) (AllReadyH.cons rfl (fun K12 hK12 => ?_) AllReadyH.nil)
          rw [if_pos (by kernel_rfl)]
          go_simp
          refine hK12.out _ _ ((((But.refl No wo).alloc _).alloc _).drew) (fun hS => ?_)
          try simp only [Act.put, List.setIfInBounds_toArray, List.set_cons_zero, List.set_cons_succ, List.getElem_toArray, List.getElem_cons_zero, List.getElem_cons_succ]
          refine wpAnyH_ready (rs := [13]) (by kernel_rfl) (by simp) (AllReadyH.cons rfl (fun K13 hK13 => ?_) AllReadyH.nil)
          rw [if_pos (by kernel_rfl)]
          go_simp
          refine hK13.out _ _ ((((But.refl No wo).alloc _).alloc _).drew) (fun hS => ?_)
          try simp only [Act.put, List.setIfInBounds_toArray, List.set_cons_zero, List.set_cons_succ, List.getElem_toArray, List.getElem_cons_zero, List.getElem_cons_succ]
          refine wpAnyH_done (by kernel_rfl) ?_ _
          go_wp2_with fail
          go_meet
          case rel => exact ⟨wo.heap.size + 1, wo.heap.size, rfl, rfl, (((But.refl No wo).alloc _).alloc _).drew, drewH (blkb wo _ _), drewH (blkold (heap_alloc_new wo _) _)⟩
      case rest =>
        obtain ⟨p, q, rfl, rfl, hbc, hbp, hbq⟩ := hcut
        have HBC := Lib.hid hbc
        have HV := Lib.hid (fun W (hW : But No wo W) => sameVars0 Av Av' cv cv' j.vars j'.vars W (pairsIn_lies (HJ.out.vars.but hW)) (pairsIn_lies (HJ'.out.vars.but hW)) HF.out.vars HF'.out.vars)
        have HP := Lib.hid (fun W (hW : But No wo W) => sameInts0 Ap Ap' cp cp' j.preds j'.preds W (intsIn_lies (HJ.out.preds.but hW)) (intsIn_lies (HJ'.out.preds.but hW)) HF.out.preds HF'.out.preds)
        have hr1 := HF.out.rules
        have hr2 := HF'.out.rules
        have x0 : wc.cell? ⟨p, 0, none⟩ = some (.int .i64 j.one.name) := blkcell hbp 0 (by simp [jobCs])
        have x1 : wc.cell? ⟨p, 1, none⟩ = some (.int .i64 j.one.run) := blkcell hbp 1 (by simp [jobCs])
        have x2 : wc.cell? ⟨p, 2, none⟩ = some (.int .i64 j.one.stage) := blkcell hbp 2 (by simp [jobCs])
        have x3 : wc.cell? ⟨p, 3, none⟩ = some (.int .i64 j.one.when_) := blkcell hbp 3 (by simp [jobCs])
        have x4 : wc.cell? ⟨p, 4, none⟩ = some (.bool j.allow) := blkcell hbp 4 (by simp [jobCs])
        have x5 : wc.cell? ⟨p, 5, none⟩ = some (.int .i64 j.one.weight) := blkcell hbp 5 (by simp [jobCs])
        have x6 : wc.cell? ⟨p, 6, none⟩ = some (.slice Ar j.rules.length cr) := blkcell hbp 6 (by simp [jobCs])
        have x7 : wc.cell? ⟨p, 7, none⟩ = some (.slice Av j.vars.length cv) := blkcell hbp 7 (by simp [jobCs])
        have x8 : wc.cell? ⟨p, 8, none⟩ = some (.slice Ap j.preds.length cp) := blkcell hbp 8 (by simp [jobCs])
        have y0 : wc.cell? ⟨q, 0, none⟩ = some (.int .i64 j'.one.name) := blkcell hbq 0 (by simp [jobCs])
        have y1 : wc.cell? ⟨q, 1, none⟩ = some (.int .i64 j'.one.run) := blkcell hbq 1 (by simp [jobCs])
        have y2 : wc.cell? ⟨q, 2, none⟩ = some (.int .i64 j'.one.stage) := blkcell hbq 2 (by simp [jobCs])
        have y3 : wc.cell? ⟨q, 3, none⟩ = some (.int .i64 j'.one.when_) := blkcell hbq 3 (by simp [jobCs])
        have y4 : wc.cell? ⟨q, 4, none⟩ = some (.bool j'.allow) := blkcell hbq 4 (by simp [jobCs])
        have y5 : wc.cell? ⟨q, 5, none⟩ = some (.int .i64 j'.one.weight) := blkcell hbq 5 (by simp [jobCs])
        have y6 : wc.cell? ⟨q, 6, none⟩ = some (.slice Ar' j'.rules.length cr') := blkcell hbq 6 (by simp [jobCs])
        have y7 : wc.cell? ⟨q, 7, none⟩ = some (.slice Av' j'.vars.length cv') := blkcell hbq 7 (by simp [jobCs])
        have y8 : wc.cell? ⟨q, 8, none⟩ = some (.slice Ap' j'.preds.length cp') := blkcell hbq 8 (by simp [jobCs])
        clear hbc hbp hbq c0 g0 c1 g1 c2 g2 c3 g3 c4 g4 c5 g5 c6 g6 c7 g7 c8 g8
        go_upto_region 7 with (fail)
        go_cut [105] (fun v wx => ∃ b : Bool, v = .bool (!b) ∧ (b = true → j.one.name = j'.one.name ∧ j.one.run = j'.one.run ∧ j.one.stage = j'.one.stage ∧ j.one.when_ = j'.one.when_ ∧ j.allow = j'.allow ∧ j.one.weight = j'.one.weight ∧ j.rules.length = j'.rules.length ∧ j.vars = j'.vars ∧ j.preds = j'.preds) ∧ (b = false → j ≠ j') ∧ ∃ n, wx = wc.drewN n)
        case first =>
          go_wp2_with (first | (go_at_call 33; refine (HV.out _ HBC.out).mono ?_; rintro e w2 ⟨rfl, ⟨n1, rfl⟩⟩; skip) | (go_at_call 34; refine (HP.out _ (HBC.out.drewN _)).mono ?_; rintro e w2 ⟨rfl, ⟨n2, rfl⟩⟩; skip))
          all_goals go_meet
          all_goals (first | exact ⟨false, rfl, fun h => (by cases h), fun _ e => (by subst e; first | contradiction | (exact absurd (show eqB j.vars j.vars = true from decide_eq_true rfl) (by assumption))), (by first | exact ⟨0, rfl⟩ | exact ⟨_, rfl⟩ | (rw [World.drewN_drewN]; exact ⟨_, rfl⟩))⟩ | exact ⟨eqB j.preds j'.preds, rfl, fun h => ⟨by assumption, by assumption, by assumption, by assumption, by assumption, by assumption, by omega, of_decide_eq_true (by assumption), of_decide_eq_true h⟩, fun h e => absurd h (by rw [e]; unfold eqB; simp), (by first | exact ⟨0, rfl⟩ | exact ⟨_, rfl⟩ | (rw [World.drewN_drewN]; exact ⟨_, rfl⟩))⟩)
        case rest =>
          obtain ⟨b, rfl, ht, hf, nq, rfl⟩ := hcut
          cases b with
          | false =>
            have E := Lib.hid (HBAD.out (hf rfl))
            clear ht hf
            go_wp2_with fail
            go_ret
            exact ⟨by rw [E.out]; rfl, (HBW.out.trans HBC.out).drewN nq⟩
          | true =>
            have HT := Lib.hid (ht rfl)
            obtain ⟨m, hm⟩ : ∃ m, j.rules.length = m := ⟨_, rfl⟩
            have hm' : j'.rules.length = m := by rw [← HT.out.2.2.2.2.2.2.1]; exact hm
            have HM := Lib.hid hm
            have HM' := Lib.hid hm'
            rw [hm] at x6 hr1
            rw [hm'] at y6
            clear ht hf hm hm' hr2
            go_wp2_with fail
            go_loopg [8] m (fun gk v ws => SmRAt wc j j' gk v ws)
            case atStart => exact ⟨0, by rw [HM.out]; rfl, Nat.zero_le _, rfl, ⟨nq, rfl⟩, rfl⟩
            case round =>
              obtain ⟨k, hgk, hk, rfl, hdr, htk⟩ := hrel
              have hbr := drewn_but hdr
              have HDR := Lib.hid hdr
              have HBR0 := Lib.hid hbr
              have x6' := hbr.cell_some x6 (fun c => c)
              have y6' := hbr.cell_some y6 (fun c => c)
              clear hdr hbr x6 y6
              have HGK2 := Lib.hid hgk
              have HTK2 := Lib.hid htk
              rw [HM.out] at hk
              clear hgk htk
              by_cases hkt : k < m
              · have hkt' : (k : Int) < (m : Int) := by omega
                have dk : decide ((k : Int) < (m : Int)) = true := decide_eq_true hkt'
                have hkj : k < j.rules.length := by rw [HM.out]; exact hkt
                have hkj' : k < j'.rules.length := by rw [HM'.out]; exact hkt
                obtain ⟨ad2, hA2, Ac, cc, r0, r1', hps⟩ := (HJ.out.rules.but (HBC.out.trans HBR0.out)) k hkj
                obtain ⟨ad3, hA3, Ac', cc', s0, s1, hps'⟩ := (HJ'.out.rules.but (HBC.out.trans HBR0.out)) k hkj'
                subst hA2 hA3
                obtain ⟨x, hx⟩ : ∃ x, j.rules[k] = x := ⟨_, rfl⟩
                obtain ⟨y, hy⟩ : ∃ y, j'.rules[k] = y := ⟨_, rfl⟩
                rw [hx] at r0 r1' hps
                rw [hy] at s0 s1 hps'
                have HSS := Lib.hid (fun n => sameSteps0 Ac Ac' cc cc' x.1 y.1 (wr.drewN n) (stepsIn_lies (hps.but ((But.refl No wr).drewN n))) (stepsIn_lies (hps'.but ((But.refl No wr).drewN n))) (by have := HF.out.codes j.rules[k] (List.getElem_mem hkj); rw [hx] at this; omega) (by have := HF'.out.codes j'.rules[k] (List.getElem_mem hkj'); rw [hy] at this; omega))
                have HNR := Lib.hid (fun (he : x = y) => show j.rules.take (k + 1) = j'.rules.take (k + 1) from take_next hkj hkj' HTK2.out (by rw [hx, hy]; exact he))
                have HBR := Lib.hid (fun (hne : x ≠ y) => show B = false from HBAD.out (fun e => hne (by rw [← hx, ← hy]; subst e; rfl)))
                clear hx hy hps hps' hkj hkj'
                go_upto_region 12 with (fail)
                go_cut [141] (fun v wx => ∃ b : Bool, v = .bool (!b) ∧ (b = true → x = y) ∧ (b = false → x ≠ y) ∧ ∃ n, wx = wr.drewN n)
                case first =>
                  by_cases hw : x.2 = y.2
                  · have b1 : (x.2 != y.2) = false := by simp [hw]
                    have HW := Lib.hid hw
                    clear hw
                    by_cases hc : x.1 = y.1
                    · have b2 : eqB x.1 y.1 = true := decide_eq_true hc
                      have HC := Lib.hid hc
                      clear hc
                      rw [b2] at HSS
                      go_quiet ((go_at_call 35; exact Calls.quiet_of (HSS.out _)))
                      go_wp2_with fail
                      go_meet
                      case rel => exact ⟨true, rfl, fun _ => Prod.ext HC.out HW.out, fun h => (by cases h), ⟨_, rfl⟩⟩
                    · have b2 : eqB x.1 y.1 = false := decide_eq_false hc
                      have HC := Lib.hid hc
                      clear hc
                      rw [b2] at HSS
                      go_quiet ((go_at_call 35; exact Calls.quiet_of (HSS.out _)))
                      go_wp2_with fail
                      go_meet
                      case rel => exact ⟨false, rfl, fun h => (by cases h), fun _ e => HC.out (by rw [e]), ⟨_, rfl⟩⟩
                  · have b1 : (x.2 != y.2) = true := by simpa using hw
                    have HW := Lib.hid hw
                    clear hw
                    go_quiet (fail)
                    go_wp2_with fail
                    go_meet
                    case rel => exact ⟨false, rfl, fun h => (by cases h), fun _ e => HW.out (by rw [e]), ⟨_, rfl⟩⟩
                case rest =>
                  obtain ⟨b, rfl, ht, hf, nq, rfl⟩ := hcut
                  cases b with
                  | false =>
                    have E := Lib.hid (HBR.out (hf rfl))
                    clear ht hf
                    go_wp2_with fail
                    go_ret
                    exact ⟨by rw [E.out]; rfl, ((HBW.out.trans HBC.out).trans HBR0.out).drewN nq⟩
                  | true =>
                    have E := Lib.hid (HNR.out (ht rfl))
                    clear ht hf
                    go_wp2_with fail
                    go_roundg (m - (k + 1))
                    case measure => rw [HGK2.out, HM.out]; omega
                    case rel => exact ⟨k + 1, by rw [HM.out], by rw [HM.out]; omega, by go_num, (by obtain ⟨q0, hq0⟩ := HDR.out; exact ⟨q0 + nq, by rw [hq0, World.drewN_drewN]⟩), E.out⟩
              · have hke : k = m := by omega
                have hkt' : ¬ (k : Int) < (m : Int) := by omega
                have dk : decide ((k : Int) < (m : Int)) = false := decide_eq_false hkt'
                have HR := Lib.hid (show j.rules = j'.rules from by
                  have := HTK2.out
                  rw [hke] at this
                  rw [← HM.out, List.take_length, HM.out, ← HM'.out, List.take_length] at this
                  exact this)
                have hjj : j = j' := by
                  obtain ⟨k1, k2, k3, k4, k5, k6, k7, k8, k9⟩ := HT.out
                  exact job_ext k1 k2 k3 k4 k5 k6 HR.out k8 k9
                have E := Lib.hid (HNX.out hjj)
                clear hke hjj
                go_wp2_with fail
                go_roundg (nj - (i + 1))
                case measure => rw [HGK.out]; omega
                case rel => exact ⟨i + 1, rfl, by omega, by go_num, (HBW.out.trans HBC.out).trans HBR0.out, ((HBC.out.trans HBR0.out).block _ (lt_of_block HB1.out) (fun c => c)).trans HB1.out, ((HBC.out.trans HBR0.out).block _ (lt_of_block HB2.out) (fun c => c)).trans HB2.out, E.out⟩
    · have hie : i = nj := by omega
      have hlt' : ¬ (i : Int) < (nj : Int) := by omega
      have dl : decide ((i : Int) < (nj : Int)) = false := decide_eq_false hlt'
      have E := Lib.hid (show B = true from HB.out.2 ⟨HTS.out, by
        have := HTK.out
        rw [hie] at this
        rw [← HNJ.out, List.take_length, HNJ.out, ← HNJ'.out, List.take_length] at this
        exact this⟩)
      clear hie
      go_wp2_with fail
      go_ret
      exact ⟨by rw [E.out]; rfl, HBW.out⟩
end Go.Proofs.Ytoaopjbgaehpfaa.G
end
section
/- WireStrict: walked. -/
namespace Go.Proofs.Ytoaopjbgaehpfaa.G
open Go.RowKit
attribute [local simp, local go_sem] alloc_drewN setCell_drewN
set_option linter.unusedVariables false
set_option linter.unusedSimpArgs false
set_option maxRecDepth 100000
/-- What a plan's lengths must be like. -/
structure PlanLens (ts : List ByteArray) (js : List JobP) : Prop where
  tl : ts.length ≤ 9223372036854775807
  jl : js.length ≤ 9223372036854775807
  sizes : ∀ s ∈ ts, s.size ≤ 9223372036854775807
  fits : ∀ j ∈ js, JobFits j
theorem PlanIn.lens {w : World} {At Aj : Option Addr} {ts : List ByteArray} {js : List JobP} (h : PlanIn w At ts Aj js) : PlanLens ts js := ⟨h.tl, h.jl, h.sizes, h.fits⟩
theorem PlanLies.inAs {base : Nat} {At : Option Addr} {nt ct : Nat} {Aj : Option Addr} {nj cj : Nat} {ts : List ByteArray} {js : List JobP} {W : World} (h : PlanLies base At nt ct Aj nj cj ts js W) (hf : PlanLens ts js) : PlanIn W At ts Aj js := by
  obtain ⟨h1, h2⟩ := own_strs h.texts
  obtain ⟨lv, h3, h4, h5⟩ := h.jobs
  obtain ⟨h6, h7⟩ := own_jobs h3 h4 h5
  exact ⟨h2, h7, hf.tl, hf.jl, hf.sizes, hf.fits⟩
theorem decPlan_some {bs : List Int} {ts : List ByteArray} {js : List JobP} (h : decPlan bs = some (ts, js)) : (∃ a, planR bs = .inr ((ts, js), a)) ∧ okP ts js = true := by
  unfold decPlan at h
  cases hr : planR bs with
  | inl e => rw [hr] at h; cases h
  | inr e =>
    obtain ⟨q, a⟩ := e
    rw [hr] at h
    dsimp only at h
    by_cases c : okP q.1 q.2 = true
    · rw [if_pos c] at h
      injection h with h
      subst h
      exact ⟨⟨a, rfl⟩, c⟩
    · rw [if_neg c] at h; cases h
theorem decErr_none {bs : List Int} (h : decPlan bs = none) : decErr bs ≠ 0 := by
  unfold decPlan at h
  unfold decErr
  cases hr : planR bs with
  | inl e =>
    obtain ⟨c, a⟩ := e
    rw [hr] at h
    have := errOk_plan bs c a hr
    show c ≠ 0
    omega
  | inr e =>
    obtain ⟨q, a⟩ := e
    rw [hr] at h
    dsimp only at h ⊢
    by_cases c : okP q.1 q.2 = true
    · rw [if_pos c] at h; cases h
    · rw [if_neg c]; decide
/-- What may be is small. -/
theorem okP_room {ts : List ByteArray} {js : List JobP} (h : okP ts js = true) : PlanRoom ts js := by
  unfold okP at h
  rw [Bool.and_eq_true, decide_eq_true_eq] at h
  obtain ⟨h1, h2⟩ := parts_texts h.1
  obtain ⟨a, b, _, d⟩ := texts_fit h1
  refine ⟨by omega, by omega, fun j hj => ?_⟩
  have hn := nums_all h.1 j hj
  exact ⟨by have := hn.rules; omega, by have := hn.vars; omega, by have := hn.preds; omega, fun r hr => by have := hn.codes r hr; omega⟩
theorem okP_lens {ts : List ByteArray} {js : List JobP} (h : okP ts js = true) : PlanLens ts js := by
  have h0 := h
  unfold okP at h
  rw [Bool.and_eq_true, decide_eq_true_eq] at h
  obtain ⟨h1, h2⟩ := parts_texts h.1
  obtain ⟨a, b, _, d⟩ := texts_fit h1
  refine ⟨by omega, by omega, fun s hs => by have := d s hs; omega, fun j hj => ?_⟩
  have hn := nums_all h.1 j hj
  exact ⟨wf_small hn.name.1 hn.name.2, by have := hn.rules; omega, fun r hr => by have := hn.codes r hr; omega, by have := hn.vars; omega, by have := hn.preds; omega⟩
end Go.Proofs.Ytoaopjbgaehpfaa.G
end
section
/- A plan that comes in, opened (the row narrowed to a bulk). -/
namespace Go.Proofs.Ytoaopjbgaehpfaa.G
open Go.RowKit
set_option linter.unusedVariables false
set_option linter.unusedSimpArgs false
set_option maxRecDepth 100000
theorem seen_ints {w : World} {A : Option Addr} {l : List Int} (h : seesRow (seesInt .i64) 1 w A l) : IntsIn w A l := fun i hi => by
  obtain ⟨ad, hA, cs, hcs, k⟩ := h i hi
  have hcs' : cs = [.int .i64 l[i]] := hcs
  subst hcs'
  have := k 0 _ rfl
  rw [add0, Nat.mul_one] at this
  exact ⟨ad, hA, this⟩
theorem seen_strs {w : World} {A : Option Addr} {l : List ByteArray} (h : seesRow seesString 1 w A l) : StrsIn w A l := fun i hi => by
  obtain ⟨ad, hA, cs, hcs, k⟩ := h i hi
  have hcs' : cs = [.string l[i]] := hcs
  subst hcs'
  have := k 0 _ rfl
  rw [add0, Nat.mul_one] at this
  exact ⟨ad, hA, this⟩
theorem seen_pairs {w : World} {A : Option Addr} {l : List (Int × Int)} (h : seesRow (seesPair (seesInt .i64) (seesInt .i64)) 2 w A l) : PairsIn w A l := fun i hi => by
  obtain ⟨ad, hA, cs, ⟨c, d, hcs, hc, hd⟩, k⟩ := h i hi
  have hc' : c = [.int .i64 l[i].1] := hc
  have hd' : d = [.int .i64 l[i].2] := hd
  subst hc' hd' hcs
  have k0 := k 0 _ rfl
  have k1 := k (0 + 1) _ rfl
  rw [add0] at k0
  rw [addS] at k1
  exact ⟨ad, hA, k0, k1⟩
def seesRule : Sees (List (Int × Int) × Int) := fun w r cs => ∃ A c, cs = [.slice A r.1.length c, .int .i64 r.2] ∧ PairsIn w A r.1
theorem seen_rules {w : World} {A : Option Addr} {l : List (List (Int × Int) × Int)} (h : seesRow seesRule 2 w A l) : RulesIn w A l := fun i hi => by
  obtain ⟨ad, hA, cs, ⟨A', c', hcs, hp⟩, k⟩ := h i hi
  subst hcs
  have k0 := k 0 _ rfl
  have k1 := k (0 + 1) _ rfl
  rw [add0] at k0
  rw [addS] at k1
  exact ⟨ad, hA, A', c', k0, k1, hp⟩
def seesJob : Sees JobP := fun w j cs => ∃ Ar cr Av cv Ap cp, cs = [.int .i64 j.one.name, .int .i64 j.one.run, .int .i64 j.one.stage, .int .i64 j.one.when_, .bool j.allow, .int .i64 j.one.weight, .slice Ar j.rules.length cr, .slice Av j.vars.length cv, .slice Ap j.preds.length cp] ∧ RulesIn w Ar j.rules ∧ PairsIn w Av j.vars ∧ IntsIn w Ap j.preds
theorem seen_jobs {w : World} {A : Option Addr} {l : List JobP} (h : seesRow seesJob 9 w A l) : JobsIn w A l := fun i hi => by
  obtain ⟨ad, hA, cs, ⟨Ar, cr, Av, cv, Ap, cp, hcs, hr, hv, hp⟩, k⟩ := h i hi
  subst hcs
  have k0 := k 0 _ rfl
  have k1 := k (0 + 1) _ rfl
  have k2 := k (1 + 1) _ rfl
  have k3 := k (2 + 1) _ rfl
  have k4 := k (3 + 1) _ rfl
  have k5 := k (4 + 1) _ rfl
  have k6 := k (5 + 1) _ rfl
  have k7 := k (6 + 1) _ rfl
  have k8 := k (7 + 1) _ rfl
  rw [add0] at k0
  rw [addS] at k1 k2 k3 k4 k5 k6 k7 k8
  exact ⟨ad, hA, Ar, Av, Ap, cr, cv, cp, ⟨k0, k1, k2, k3, k4, k5, k6, k7, k8, hr, hv, hp⟩⟩
def seesPlan : Sees (List ByteArray × List JobP) := fun w p cs => ∃ At ct Aj cj, cs = [.slice At p.1.length ct, .slice Aj p.2.length cj] ∧ StrsIn w At p.1 ∧ JobsIn w Aj p.2
def JobU (j : JobP) : Prop := (Lit.int .i64 j.one.name).wf = true ∧ ((∀ r ∈ j.rules, r.1.length ≤ 1048576) ∧ j.rules.length ≤ 1048576) ∧ j.vars.length ≤ 1048576 ∧ j.preds.length ≤ 1048576
def PlanU (p : List ByteArray × List JobP) : Prop := ((∀ s ∈ p.1, s.size ≤ 1048576) ∧ p.1.length ≤ 1048576) ∧ (∀ j ∈ p.2, JobU j) ∧ p.2.length ≤ 1048576
theorem oTsU : OpensKU Try.prog 22 (seesSlice seesString 1) (fun l => (∀ s ∈ l, s.size ≤ 1048576) ∧ l.length ≤ 1048576) := opensK_sliceU Try.underlying22 (opensK_stringU Try.underlying9) cel9
theorem oIsU : OpensKU Try.prog 50 (seesSlice (seesInt .i64) 1) (fun l => l.length ≤ 1048576) := OpensKU.mono (opensK_sliceU Try.underlying50 (opensK_intU Try.underlying3) cel3) fun l h => h.2
theorem oVsU : OpensKU Try.prog 49 (seesSlice (seesPair (seesInt .i64) (seesInt .i64)) 2) (fun l => l.length ≤ 1048576) :=
  OpensKU.mono (opensK_sliceU Try.underlying49 (opensK_structU Try.underlying81 (by rw [celV]; simp [cel3]) (opensKL_consU rfl (opensK_intU Try.underlying3) (opensKL_oneU (by simp [cel3]) (opensK_intU Try.underlying3)))) celV) fun l h => h.2
theorem oSsU : OpensKU Try.prog 56 (seesSlice (seesPair (seesInt .i64) (seesInt .i64)) 2) (fun l => l.length ≤ 1048576) :=
  OpensKU.mono (opensK_sliceU Try.underlying56 (opensK_structU Try.underlying79 (by rw [celS]; simp [cel3]) (opensKL_consU rfl (opensK_intU Try.underlying3) (opensKL_oneU (by simp [cel3]) (opensK_intU Try.underlying3)))) celS) fun l h => h.2
theorem oRU : OpensKU Try.prog 58 seesRule (fun r => r.1.length ≤ 1048576) :=
  OpensKU.iso (opensK_structU Try.underlying58 (by rw [celR]; simp [cel3, celSs]) (opensKL_consU rfl oSsU (opensKL_oneU (by simp [celSs]) (opensK_intU Try.underlying3)))) (fun p => p) _ (fun w a cs h => by
    obtain ⟨c, d, hcs, ⟨A, cc, hc, _, _, hr⟩, hd⟩ := h
    have hd' : d = [.int .i64 a.2] := hd
    subst hc hd' hcs
    exact ⟨A, cc, rfl, seen_pairs hr⟩) (fun a h => h.1)
theorem oRsU : OpensKU Try.prog 48 (seesSlice seesRule 2) (fun l => (∀ r ∈ l, r.1.length ≤ 1048576) ∧ l.length ≤ 1048576) := opensK_sliceU Try.underlying48 oRU celR
theorem oJU : OpensKU Try.prog 52 seesJob JobU :=
  OpensKU.iso (opensK_structU Try.underlying52 (by rw [celJ]; simp [cel3, cel4, celRs, celVs, celIs])
    (opensKL_consU rfl (opensK_intU Try.underlying3) (opensKL_consU (by simp [cel3]) (opensK_intU Try.underlying3) (opensKL_consU (by simp [cel3]) (opensK_intU Try.underlying3) (opensKL_consU (by simp [cel3]) (opensK_intU Try.underlying3) (opensKL_consU (by simp [cel3]) (opensK_boolU Try.underlying4) (opensKL_consU (by simp [cel3, cel4]) (opensK_intU Try.underlying3) (opensKL_consU (by simp [cel3, cel4]) oRsU (opensKL_consU (by simp [cel3, cel4, celRs]) oVsU (opensKL_oneU (by simp [cel3, cel4, celRs, celVs]) oIsU))))))))))
    (fun p => ⟨⟨p.1, p.2.1, p.2.2.1, p.2.2.2.1, p.2.2.2.2.2.1⟩, p.2.2.2.2.1, p.2.2.2.2.2.2.1, p.2.2.2.2.2.2.2.1, p.2.2.2.2.2.2.2.2⟩) _ (fun w a cs h => by
    obtain ⟨c0, d0, rfl, h0, c1, d1, rfl, h1, c2, d2, rfl, h2, c3, d3, rfl, h3, c4, d4, rfl, h4, c5, d5, rfl, h5, c6, d6, rfl, ⟨A6, k6, e6, _, _, r6⟩, c7, d7, rfl, ⟨A7, k7, e7, _, _, r7⟩, ⟨A8, k8, e8, _, _, r8⟩⟩ := h
    have h0' : c0 = [.int .i64 a.1] := h0
    have h1' : c1 = [.int .i64 a.2.1] := h1
    have h2' : c2 = [.int .i64 a.2.2.1] := h2
    have h3' : c3 = [.int .i64 a.2.2.2.1] := h3
    have h4' : c4 = [.bool a.2.2.2.2.1] := h4
    have h5' : c5 = [.int .i64 a.2.2.2.2.2.1] := h5
    subst h0' h1' h2' h3' h4' h5' e6 e7 e8
    exact ⟨A6, k6, A7, k7, A8, k8, rfl, seen_rules r6, seen_pairs r7, seen_ints r8⟩) (fun a h => ⟨h.1, h.2.2.2.2.2.2.1, h.2.2.2.2.2.2.2.1, h.2.2.2.2.2.2.2.2⟩)
theorem oPlanU : OpensKU Try.prog 25 seesPlan PlanU :=
  OpensKU.iso (opensK_structU Try.underlying25 (by rw [celP]; simp [celTs, celJs]) (opensKL_consU rfl oTsU (opensKL_oneU (by simp [celTs]) (opensK_sliceU Try.underlying23 oJU celJ)))) (fun p => p) _ (fun w a cs h => by
    obtain ⟨c, d, hcs, ⟨A, cc, hc, _, _, hr⟩, ⟨A', cc', hd, _, _, hr'⟩⟩ := h
    subst hc hd hcs
    exact ⟨A, cc, A', cc', rfl, seen_strs hr, seen_jobs hr'⟩) (fun a h => ⟨h.1, h.2.1, h.2.2⟩)
theorem planU_room {p : List ByteArray × List JobP} (h : PlanU p) : PlanRoom p.1 p.2 := by
  refine ⟨by have := h.1.2; omega, by have := h.2.2; omega, fun j hj => ?_⟩
  obtain ⟨_, ⟨h2, h3⟩, h4, h5⟩ := h.2.1 j hj
  exact ⟨by omega, by omega, by omega, fun r hr => by have := h2 r hr; omega⟩
theorem planU_lens {p : List ByteArray × List JobP} (h : PlanU p) : PlanLens p.1 p.2 := by
  refine ⟨by have := h.1.2; omega, by have := h.2.2; omega, fun s hs => by have := h.1.1 s hs; omega, fun j hj => ?_⟩
  obtain ⟨h1, ⟨h2, h3⟩, h4, h5⟩ := h.2.1 j hj
  exact ⟨h1, by omega, fun r hr => by have := h2 r hr; omega, by omega, by omega⟩
/-- A plan's value, and what lies. -/
theorem seen_plan {w : World} {p : List ByteArray × List JobP} {v : Value} (hv : ∃ cs, v = .agg cs ∧ cs.size = Try.prog.cellsOf 25) (h : seesPlan w p v.cells.toList) (hU : PlanU p) : ∃ At ct Aj cj, v = .agg #[.slice At p.1.length ct, .slice Aj p.2.length cj] ∧ PlanIn w At p.1 Aj p.2 := by
  obtain ⟨cs, rfl, _⟩ := hv
  obtain ⟨At, ct, Aj, cj, h1, h2, h3⟩ := h
  have hl := planU_lens hU
  refine ⟨At, ct, Aj, cj, ?_, ⟨h2, h3, hl.tl, hl.jl, hl.sizes, hl.fits⟩⟩
  have h1' : cs.toList = _ := h1
  rw [← Array.toArray_toList (xs := cs), h1']
end Go.Proofs.Ytoaopjbgaehpfaa.G
end
section
/- WireApart: walked. -/
namespace Go.Proofs.Ytoaopjbgaehpfaa.G
open Go.RowKit
attribute [local simp, local go_sem] alloc_drewN setCell_drewN
set_option linter.unusedVariables false
set_option linter.unusedSimpArgs false
set_option maxRecDepth 100000
/-- Encode, either way. -/
def EncPost (w : World) (ts : List ByteArray) (js : List JobP) (e : Ending) (w' : World) : Prop :=
  But No w w' ∧ ((okP ts js = true ∧ ∃ A c, e = .returned (.tuple #[.slice A (planW ts js).length c, .int .i64 0]) ∧ byE.Own w' w.heap.size (.slice A (planW ts js).length c) (planW ts js)) ∨ (okP ts js = false ∧ e = .returned (.tuple #[.slice none 0 0, .int .i64 180])))
theorem enc_any {w : World} {At Aj : Option Addr} {ts : List ByteArray} {js : List JobP} (ct cj : Nat) (h : PlanIn w At ts Aj js) :
    Calls Try.prog 12 #[.agg #[.slice At ts.length ct, .slice Aj js.length cj]] w (EncPost w ts js) := by
  cases hok : okP ts js with
  | true =>
    refine (enc_ok ct cj h hok).mono ?_
    rintro e w' ⟨v, rfl, hv, hb⟩
    obtain ⟨A, c, rfl⟩ := hv.slice
    exact ⟨But.of_below hb, .inl ⟨hok, A, c, rfl, hv⟩⟩
  | false =>
    refine (enc_no ct cj h hok).mono ?_
    rintro e w' ⟨rfl, hb⟩
    exact ⟨But.of_below hb, .inr ⟨hok, rfl⟩⟩
theorem planW_small {ts : List ByteArray} {js : List JobP} (h : okP ts js = true) : (planW ts js).length ≤ 100000000000000 := by
  unfold okP at h
  rw [Bool.and_eq_true, decide_eq_true_eq] at h
  obtain ⟨h1, h2⟩ := parts_texts h.1
  obtain ⟨a, b, _, d⟩ := texts_fit h1
  have hn := nums_all h.1
  have k1 := flat_len (f := textW) (B := 4100) ts (fun s hs => textW_len (d s hs))
  have k2 := flat_len (f := jobW) (B := 140000) js (fun j hj => jobW_len (hn j hj))
  have k3 := bytesL_len [(ts.length : Int)]
  have k4 := bytesL_len [(js.length : Int)]
  simp only [List.length_cons, List.length_nil] at k3 k4
  unfold planW
  simp only [List.length_append, List.length_cons, List.length_nil]
  omega
end Go.Proofs.Ytoaopjbgaehpfaa.G
end
section
/- WireBack: plan.Size, the bytes' number, the walk. -/
namespace Go.Proofs.Ytoaopjbgaehpfaa.G
open Go.RowKit
attribute [local simp, local go_sem] alloc_drewN setCell_drewN
set_option linter.unusedVariables false
set_option linter.unusedSimpArgs false
set_option maxRecDepth 100000
theorem numL_len {n : Int} (h : In28 n) : numL n = ((numW n).length : Int) := by
  have h1 := h.1
  have h2 := h.2
  unfold numL numW
  by_cases a : n ≤ 127
  · rw [if_pos (.inl a), if_pos (show n < 128 by omega)]; rfl
  · rw [if_neg (show ¬ (n ≤ 127 ∨ 268435456 ≤ n) by omega), if_neg (show ¬ n < 128 by omega)]
    by_cases b : n < 16384
    · rw [if_pos b, if_pos b]; rfl
    · rw [if_neg b, if_neg b]
      by_cases c : n < 2097152
      · rw [if_pos c, if_pos c]; rfl
      · rw [if_neg c, if_neg c]; rfl
theorem flat_sum {α : Type} (f : α → List Int) (g : α → Int) : ∀ l : List α, (∀ x ∈ l, g x = ((f x).length : Int)) → (l.map g).sum = ((l.flatMap f).length : Int)
  | [], _ => rfl
  | x :: l, h => by
    rw [List.map_cons, List.sum_cons, List.flatMap_cons, List.length_append, flat_sum f g l (fun y hy => h y (List.mem_cons_of_mem _ hy)), h x (List.mem_cons_self ..)]
    omega
theorem sumL_len {ns : List Int} (h : ∀ n ∈ ns, In28 n) : sumL ns = ((bytesL ns).length : Int) := flat_sum numW numL ns (fun n hn => numL_len (h n hn))
theorem len28 {n : Nat} (h : n < 268435456) : In28 (n : Int) := ⟨by omega, by omega⟩
theorem stepSz_len {x : Int × Int} (h : OkS x) : 1 + stepSz x = ((stepW x).length : Int) := by
  have e1 : bytesL [x.1] = [x.1] := by
    have := h.1.2
    simp [bytesL, numW_1 (show x.1 < 128 by omega)]
  unfold stepSz stepW
  rw [e1]
  have h2 := h.2
  by_cases c : saysB x.1 = true
  · rw [if_pos c] at h2 ⊢
    rw [if_pos c, sumL_len (ns := [x.2]) (by simpa using h2)]
    simp only [List.length_append, List.length_cons, List.length_nil]
    omega
  · rw [if_neg c, if_neg c]; rfl
theorem sum_one (l : List (Int × Int)) : (l.map (fun x => 1 + stepSz x)).sum = (l.length : Int) + (l.map stepSz).sum := by
  induction l with
  | nil => rfl
  | cons x l ih =>
    rw [List.map_cons, List.sum_cons, ih, List.map_cons, List.sum_cons, List.length_cons]
    omega
theorem ruleSz_len {r : List (Int × Int) × Int} (h : OkR r) : ruleSz r = ((ruleW r).length : Int) := by
  have e1 := sumL_len (ns := [r.2, (r.1.length : Int)]) (by
    intro n hn
    simp only [List.mem_cons, List.not_mem_nil, or_false] at hn
    rcases hn with rfl | rfl
    · exact h.1
    · exact len28 h.2.1)
  have e2 := flat_sum stepW (fun x => 1 + stepSz x) r.1 (fun x hx => stepSz_len (h.2.2 x hx))
  rw [sum_one] at e2
  unfold ruleSz ruleW
  rw [e1, List.length_append]
  omega
theorem varSz_len {v : Int × Int} (h : OkV v) : varSz v = ((varW v).length : Int) := sumL_len (ns := [v.1, v.2]) (by
    intro n hn
    simp only [List.mem_cons, List.not_mem_nil, or_false] at hn
    rcases hn with rfl | rfl
    · exact h.1
    · exact h.2)
theorem sumL_app (l m : List Int) : sumL (l ++ m) = sumL l + sumL m := by
  unfold sumL
  rw [List.map_append, List.sum_append]
theorem jobSz_len {j : JobP} (h : OkJ j) : jobSz j = ((jobW j).length : Int) := by
  obtain ⟨h1, h2, h3, h4⟩ := h
  have e1 := sumL_len (ns := five j) h1
  have e2 := sumL_len (ns := [(j.rules.length : Int)]) (by intro n hn; simp only [List.mem_cons, List.not_mem_nil, or_false] at hn; subst hn; exact len28 h2.1)
  have e3 := sumL_len (ns := [(j.vars.length : Int)]) (by intro n hn; simp only [List.mem_cons, List.not_mem_nil, or_false] at hn; subst hn; exact len28 h3.1)
  have e4 := sumL_len (ns := [(j.preds.length : Int)]) (by intro n hn; simp only [List.mem_cons, List.not_mem_nil, or_false] at hn; subst hn; exact len28 h4.1)
  have e5 := sumL_len h4.2
  have e6 := flat_sum ruleW ruleSz j.rules (fun r hr => ruleSz_len (h2.2 r hr))
  have e7 := flat_sum varW varSz j.vars (fun v hv => varSz_len (h3.2 v hv))
  have ea : (bytesL [if j.allow = true then 1 else 0, (j.rules.length : Int)]).length = 1 + (bytesL [(j.rules.length : Int)]).length := by
    have e : numW (if j.allow = true then 1 else 0) = [if j.allow = true then 1 else 0] := numW_1 (by split <;> decide)
    unfold bytesL
    rw [List.flatMap_cons, e, List.length_append]
    rfl
  unfold jobSz jobW
  rw [show [j.one.name, j.one.run, j.one.stage, j.one.when_, j.one.weight, (j.rules.length : Int), (j.vars.length : Int), (j.preds.length : Int)] = five j ++ ([(j.rules.length : Int)] ++ ([(j.vars.length : Int)] ++ [(j.preds.length : Int)])) from rfl]
  rw [sumL_app, sumL_app, sumL_app]
  unfold five at e1 ⊢
  simp only [List.length_append]
  rw [ea]
  omega
theorem sizeP_len {ts : List ByteArray} {js : List JobP} (h : OkW ts js) : sizeP ts js = ((planW ts js).length : Int) := by
  obtain ⟨h1, h2⟩ := h
  have e1 := sumL_len (ns := [(ts.length : Int)]) (by intro n hn; simp only [List.mem_cons, List.not_mem_nil, or_false] at hn; subst hn; exact len28 h1.1)
  have e2 := sumL_len (ns := [(js.length : Int)]) (by intro n hn; simp only [List.mem_cons, List.not_mem_nil, or_false] at hn; subst hn; exact len28 h2.1)
  have e3 := flat_sum textW textSz ts (fun s hs => by
    have e := sumL_len (ns := [(s.size : Int)]) (by intro n hn; simp only [List.mem_cons, List.not_mem_nil, or_false] at hn; subst hn; exact len28 (h1.2 s hs))
    unfold textSz textW
    rw [e, List.length_append, byts_len]
    omega)
  have e4 := flat_sum jobW jobSz js (fun j hj => jobSz_len (h2.2 j hj))
  unfold sizeP planW
  rw [show [(ts.length : Int), (js.length : Int)] = [(ts.length : Int)] ++ [(js.length : Int)] from rfl, sumL_app]
  simp only [List.length_append, List.length_cons, List.length_nil]
  omega
theorem bytes_num {n : Int} (h : In28 n) : ∀ b ∈ numW n, 0 ≤ b ∧ b < 256 := by
  have h1 := h.1
  have h2 := h.2
  intro b hb
  unfold numW at hb
  split at hb
  · simp only [List.mem_cons, List.not_mem_nil, or_false] at hb; omega
  · split at hb
    · simp only [List.mem_cons, List.not_mem_nil, or_false] at hb; omega
    · split at hb
      · simp only [List.mem_cons, List.not_mem_nil, or_false] at hb; omega
      · simp only [List.mem_cons, List.not_mem_nil, or_false] at hb; omega
theorem bytes_flat {α : Type} {f : α → List Int} {l : List α} (h : ∀ x ∈ l, ∀ b ∈ f x, 0 ≤ b ∧ b < 256) : ∀ b ∈ l.flatMap f, 0 ≤ b ∧ b < 256 := fun b hb => by
  obtain ⟨x, hx, hb⟩ := List.mem_flatMap.1 hb
  exact h x hx b hb
theorem bytes_app {l m : List Int} (h : ∀ b ∈ l, 0 ≤ b ∧ b < 256) (h' : ∀ b ∈ m, 0 ≤ b ∧ b < 256) : ∀ b ∈ l ++ m, 0 ≤ b ∧ b < 256 := fun b hb => by
  rcases List.mem_append.1 hb with hb | hb
  · exact h b hb
  · exact h' b hb
theorem bytes_L {ns : List Int} (h : ∀ n ∈ ns, In28 n) : ∀ b ∈ bytesL ns, 0 ≤ b ∧ b < 256 := bytes_flat fun n hn => bytes_num (h n hn)
theorem one28 {n : Int} (h : In28 n) : ∀ m ∈ [n], In28 m := fun m hm => by
  simp only [List.mem_cons, List.not_mem_nil, or_false] at hm
  subst hm
  exact h
theorem two28 {n k : Int} (h : In28 n) (h' : In28 k) : ∀ m ∈ [n, k], In28 m := fun m hm => by
  simp only [List.mem_cons, List.not_mem_nil, or_false] at hm
  rcases hm with rfl | rfl
  · exact h
  · exact h'
theorem byts_rng (s : ByteArray) : ∀ b ∈ byts s, 0 ≤ b ∧ b < 256 := fun b hb => by
  unfold byts at hb
  obtain ⟨c, _, rfl⟩ := List.mem_map.1 hb
  have := c.toNat_lt
  omega
theorem planW_bytes {ts : List ByteArray} {js : List JobP} (h : OkW ts js) (hl : (planW ts js).length ≤ 1152921504606846975) : Bytes (planW ts js) := by
  refine ⟨hl, ?_⟩
  obtain ⟨h1, h2⟩ := h
  unfold planW
  refine bytes_app (bytes_app (bytes_app (bytes_app (by decide) (bytes_L (one28 (len28 h1.1)))) (bytes_flat fun s hs => ?_)) (bytes_L (one28 (len28 h2.1)))) (bytes_flat fun j hj => ?_)
  · exact bytes_app (bytes_L (one28 (len28 (h1.2 s hs)))) (byts_rng s)
  · obtain ⟨k1, k2, k3, k4⟩ := h2.2 j hj
    unfold jobW
    refine bytes_app (bytes_app (bytes_app (bytes_app (bytes_app (bytes_app (bytes_L k1) (bytes_L (two28 (by split <;> exact ⟨by decide, by decide⟩) (len28 k2.1)))) (bytes_flat fun r hr => ?_)) (bytes_L (one28 (len28 k3.1)))) (bytes_flat fun v hv => bytes_L (two28 (k3.2 v hv).1 (k3.2 v hv).2))) (bytes_L (one28 (len28 k4.1)))) (bytes_L k4.2)
    obtain ⟨m1, m2⟩ := k2.2 r hr
    refine bytes_app (bytes_L (two28 m1 (len28 m2.1))) (bytes_flat fun x hx => ?_)
    have hx' := m2.2 x hx
    have hk := hx'.1
    refine bytes_app (bytes_L (one28 ⟨by omega, by omega⟩)) ?_
    by_cases c : saysB x.1 = true
    · rw [if_pos c]
      have := hx'.2
      rw [if_pos c] at this
      exact bytes_L (one28 this)
    · rw [if_neg c]
      intro b hb
      cases hb
theorem planSize0 {w : World} {At Aj : Option Addr} {ts : List ByteArray} {js : List JobP} (ct cj : Nat) (h : PlanIn w At ts Aj js) (hok : okP ts js = true) :
    Calls Try.prog 21 #[.agg #[.slice At ts.length ct, .slice Aj js.length cj]] w fun e w' => e = .returned (.int .i64 (sizeP ts js)) ∧ Below w.heap.size w w' := by
  unfold okP at hok
  rw [Bool.and_eq_true, decide_eq_true_eq, decide_eq_true_eq] at hok
  have HP := Lib.hid (fun W (hW : But No w W) => parts0 At ct ts Aj cj js W (h.but hW).texts (h.but hW).jobs h.tl h.jl h.sizes h.fits)
  have HZ := Lib.hid (fun W (hW : But No w W) => size0 At ct ts Aj cj js W (h.but hW).texts (h.but hW).jobs (size_fits hok.1))
  have H1 := Lib.hid hok.1
  clear hok
  generalize sizeP ts js = Z at HZ
  go_enter Try.func21, Try.ntmps21
  go_wp2_with (first | (go_at_call 39; refine (HP.out _ ((But.refl No w).alloc _)).mono ?_; rw [H1.out]; rintro e w1 ⟨⟨n, rfl⟩, hb⟩; (have q0 := (hb.cell (p := ⟨w.heap.size, 0, none⟩) (by simp)).trans (show _ = some (.slice At ts.length ct) from by go_simp)); (have q1 := (hb.cell (p := ⟨w.heap.size, 1, none⟩) (by simp)).trans (show _ = some (.slice Aj js.length cj) from by go_simp)); (have HB1 := Lib.hid (((But.refl No w).alloc _).trans (But.of_below (S := No) hb))); clear hb) | (go_at_call 40; refine (HZ.out _ HB1.out).mono ?_; rintro e w2 ⟨rfl, hb⟩; (have HB2 := Lib.hid (HB1.out.trans (But.of_below (S := No) hb))); clear hb))
  go_ret
  exact ⟨rfl, HB2.out.belowNo⟩
set_option maxHeartbeats 8000000 in
theorem wireBack0 {w : World} {At Aj : Option Addr} {ts : List ByteArray} {js : List JobP} (ct cj : Nat) (h : PlanIn w At ts Aj js) (hr : PlanRoom ts js) :
    Calls Try.prog 9 #[.agg #[.slice At ts.length ct, .slice Aj js.length cj]] w fun e w' => e = .returned (.bool true) ∧ But No w w' := by
  have HR := Lib.hid hr
  have HLENS := Lib.hid h.lens
  have hW0 := ((But.refl No w).alloc (.cells #[.slice At ts.length ct, .slice Aj js.length cj] 25))
  have HPI := Lib.hid (h.but hW0)
  have hx := heap_alloc_new w (.cells #[.slice At ts.length ct, .slice Aj js.length cj] 25)
  have q0 := blkcell hx 0 (by simp)
  have q1 := blkcell hx 1 (by simp)
  simp only [List.getElem_toArray, List.getElem_cons_zero, List.getElem_cons_succ] at q0 q1
  have HB0 := Lib.hid hW0
  clear h hr hW0 hx
  go_enter Try.func9, Try.ntmps9
  go_wp2_with fail
  generalize (w.alloc (.cells #[.slice At ts.length ct, .slice Aj js.length cj] 25)) = W0 at *
  refine (copyPlan0 ct cj HPI.out HR.out).mono ?_
  rintro e w1 ⟨hb1, A1, c1, B1, d1, rfl, hpl1⟩
  have HP1 := Lib.hid (hpl1.inAs HLENS.out)
  have HB1 := Lib.hid (HB0.out.trans hb1)
  have HPIa := Lib.hid (HPI.out.but hb1)
  have q0 := hb1.cell_some q0 (fun c => c)
  have q1 := hb1.cell_some q1 (fun c => c)
  clear hb1 hpl1
  go_wp2_with fail
  cases hok : okP ts js with
  | false =>
    refine (check_no c1 d1 HP1.out hok).mono ?_
    rintro e w2 ⟨⟨n2, k2, hk2, rfl⟩, hb2⟩
    have hb2' : But No w1 w2 := But.of_below hb2
    have HB2 := Lib.hid (HB1.out.trans hb2')
    have HPIb := Lib.hid (HPIa.out.but hb2')
    have q0 := hb2'.cell_some q0 (fun c => c)
    have q1 := hb2'.cell_some q1 (fun c => c)
    have hkn : (k2 != 0) = true := by simpa using hk2
    have HOK := Lib.hid hok
    clear hb2 hb2' hk2 hok
    go_wp2_with fail
    refine (copyPlan0 ct cj HPIb.out HR.out).mono ?_
    rintro e w3 ⟨hb3, A3, c3, B3, d3, rfl, hpl3⟩
    have HP3 := Lib.hid (hpl3.inAs HLENS.out)
    have HB3 := Lib.hid (HB2.out.trans hb3)
    clear hb3 hpl3
    go_wp2_with fail
    refine (enc_no c3 d3 HP3.out HOK.out).mono ?_
    rintro e w4 ⟨rfl, hb4⟩
    have HB4 := Lib.hid (HB3.out.trans (But.of_below (S := No) hb4))
    clear hb4
    go_wp2_with fail
    refine (awake0 _).mono ?_
    rintro e w5 ⟨rfl, hb5⟩
    have HB5 := Lib.hid (HB4.out.trans hb5)
    clear hb5
    go_wp2_with fail
    go_ret
    exact ⟨rfl, HB5.out⟩
  | true =>
    refine (check_ok c1 d1 HP1.out hok).mono ?_
    rintro e w2 ⟨⟨n2, rfl⟩, hb2⟩
    have hb2' : But No w1 w2 := But.of_below hb2
    have HB2 := Lib.hid (HB1.out.trans hb2')
    have HPIb := Lib.hid (HPIa.out.but hb2')
    have q0 := hb2'.cell_some q0 (fun c => c)
    have q1 := hb2'.cell_some q1 (fun c => c)
    have HOK := Lib.hid hok
    clear hb2 hb2' hok
    go_wp2_with fail
    refine (copyPlan0 ct cj HPIb.out HR.out).mono ?_
    rintro e w3 ⟨hb3, A3, c3, B3, d3, rfl, hpl3⟩
    have HP3 := Lib.hid (hpl3.inAs HLENS.out)
    have HB3 := Lib.hid (HB2.out.trans hb3)
    have HPIc := Lib.hid (HPIb.out.but hb3)
    have q0 := hb3.cell_some q0 (fun c => c)
    have q1 := hb3.cell_some q1 (fun c => c)
    clear hb3 hpl3
    go_wp2_with fail
    refine (enc_ok c3 d3 HP3.out HOK.out).mono ?_
    rintro e w4 ⟨v, rfl, hv, hb4⟩
    have hb4' : But No w3 w4 := But.of_below hb4
    have HB4 := Lib.hid (HB3.out.trans hb4')
    have HPId := Lib.hid (HPIc.out.but hb4')
    have q0 := hb4'.cell_some q0 (fun c => c)
    have q1 := hb4'.cell_some q1 (fun c => c)
    obtain ⟨A4, c4, rfl⟩ := hv.slice
    have hz := planW_small HOK.out
    have hdec : decPlan (planW ts js) = some (ts, js) := by
      unfold decPlan
      rw [plan_reads (okW_of HOK.out)]
      exact if_pos HOK.out
    have hsz : sizeP ts js = ((planW ts js).length : Int) := sizeP_len (okW_of HOK.out)
    have hBy : Bytes (planW ts js) := planW_bytes (okW_of HOK.out) (by omega)
    have HLI := Lib.hid hv.lies
    have HSZ := Lib.hid (fun W A B c d (hP : PlanIn W A ts B js) => hsz ▸ planSize0 c d hP HOK.out)
    clear hb4 hb4' hv hsz
    generalize planW ts js = p1 at *
    go_wp2_with fail
    refine (copyBytes0 A4 c4 p1 w4 HLI.out (by omega)).mono ?_
    rintro e w5 ⟨v5, rfl, hv5, hb5⟩
    obtain ⟨A5, c5, rfl⟩ := hv5.slice
    have HB5 := Lib.hid (HB4.out.trans hb5)
    have HPIe := Lib.hid (HPId.out.but hb5)
    have q0 := hb5.cell_some q0 (fun c => c)
    have q1 := hb5.cell_some q1 (fun c => c)
    have HO5 := Lib.hid hv5
    clear hb5 hv5
    go_wp2_with fail
    refine (decode0 (own_bytes HO5.out hBy).1).mono ?_
    rintro e w6 ⟨hb6, hp6⟩
    rw [hdec] at hp6
    obtain ⟨A6, c6, B6, d6, rfl, hpl6⟩ := hp6
    have hb6' := hb6.alloc (.cells #[.slice A6 ts.length c6, .slice B6 js.length d6] 25)
    have HB6 := Lib.hid (HB5.out.trans hb6')
    have HPIf := Lib.hid (HPIe.out.but hb6')
    have HP6 := Lib.hid ((hpl6.inAs HLENS.out).but ((But.refl No w6).alloc (.cells #[.slice A6 ts.length c6, .slice B6 js.length d6] 25)))
    have q0 := hb6'.cell_some q0 (fun c => c)
    have q1 := hb6'.cell_some q1 (fun c => c)
    have r0 : (w6.alloc (.cells #[.slice A6 ts.length c6, .slice B6 js.length d6] 25)).cell? ⟨w6.heap.size, 0, none⟩ = some (.slice A6 ts.length c6) := blkcell (heap_alloc_new w6 _) 0 (by simp)
    have r1 : (w6.alloc (.cells #[.slice A6 ts.length c6, .slice B6 js.length d6] 25)).cell? ⟨w6.heap.size, 1, none⟩ = some (.slice B6 js.length d6) := blkcell (heap_alloc_new w6 _) 1 (by simp)
    obtain ⟨N, hN⟩ : ∃ N, decCount p1 = N := ⟨_, rfl⟩
    rw [hN]
    clear hb6 hb6' hpl6 hN hdec HO5
    go_wp2_with fail
    obtain ⟨g6, hg6⟩ : ∃ g, w6.heap.size = g := ⟨_, rfl⟩
    rw [hg6] at r0 r1 ⊢
    generalize w6.alloc (.cells #[.slice A6 ts.length c6, .slice B6 js.length d6] 25) = W6 at *
    refine (samePlan0 c6 d6 ct cj HP6.out HPIf.out).mono ?_
    rintro e w7 ⟨b, rfl, hbt, hb7⟩
    have hbt' : b = true := hbt.2 ⟨rfl, rfl⟩
    subst hbt'
    have HB7 := Lib.hid (HB6.out.trans hb7)
    have HPIg := Lib.hid (HPIf.out.but hb7)
    have q0 := hb7.cell_some q0 (fun c => c)
    have q1 := hb7.cell_some q1 (fun c => c)
    clear hbt hb7
    go_wp2_with fail
    refine (copyPlan0 ct cj HPIg.out HR.out).mono ?_
    rintro e w8 ⟨hb8, A8, c8, B8, d8, rfl, hpl8⟩
    have HP8 := Lib.hid (hpl8.inAs HLENS.out)
    have HB8 := Lib.hid (HB7.out.trans hb8)
    clear hb8 hpl8
    go_wp2_with fail
    refine (HSZ.out _ _ _ c8 d8 HP8.out).mono ?_
    rintro e w9 ⟨rfl, hb9⟩
    have HB9 := Lib.hid (HB8.out.trans (But.of_below (S := No) hb9))
    have hbeq : ((p1.length : Int) == (p1.length : Int)) = true := beq_self_eq_true _
    clear hb9
    go_wp2_with fail
    refine (awake0 _).mono ?_
    rintro e w10 ⟨rfl, hb10⟩
    have HB10 := Lib.hid (HB9.out.trans hb10)
    clear hb10
    go_wp2_with fail
    go_ret
    exact ⟨rfl, HB10.out⟩
end Go.Proofs.Ytoaopjbgaehpfaa.G
end
section
/- WireBack, as its row wants it. -/
namespace Go.Proofs.Ytoaopjbgaehpfaa.G
open Go.RowKit
set_option linter.unusedVariables false
set_option linter.unusedSimpArgs false
theorem wireBackR (W : World) (x : List ByteArray × List JobP) (v : Value) (hv : ∃ cs, v = .agg cs ∧ cs.size = Try.prog.cellsOf 25) (hK : seesPlan W x v.cells.toList) (hb : PlanU x) :
    Calls Try.prog 9 #[v] W fun e W' => e = .returned (.bool true) ∧ Below W.heap.size W W' := by
  obtain ⟨At, ct, Aj, cj, rfl, h1⟩ := seen_plan hv hK hb
  exact (wireBack0 ct cj h1 (planU_room hb)).mono fun e W' h => ⟨h.1, h.2.belowNo⟩
end Go.Proofs.Ytoaopjbgaehpfaa.G
end
