/- plan's looker: what a job has once. -/
import Derived.Test.YtoaopjbgaehpfaaQGg
namespace Go.Proofs.Ytoaopjbgaehpfaa.G
open Go.RowKit Go.Maps
attribute [local simp, local go_sem] alloc_drewN setCell_drewN
set_option linter.unusedVariables false
set_option linter.unusedSimpArgs false
set_option maxRecDepth 100000
theorem zero3J (w : World) : (zeroValue 3).run Try.prog w = .ok (.int .i64 0) w := by kernel_rfl
theorem when0k (k : Int) (b : Bool) (hb : whenB k = b) (w : World) : Calls Try.prog 73 #[.int .i64 k] w fun e w' => e = .returned (.bool b) ∧ ∃ m, w' = w.drewN m := (when0q k b hb w).mono fun _ _ ⟨h, h2⟩ => ⟨h, 0, h2.symm⟩
structure JobN where
  name : Int
  run : Int
  stage : Int
  when_ : Int
  weight : Int
def fieldsB (nt : Nat) (seen : List Int) (j : JobN) : Bool :=
  textB j.name nt && textB j.run nt && decide (seen.count j.name = 0) && decide (0 ≤ j.stage) && decide (j.stage < 64) && whenB j.when_ && decide (0 ≤ j.weight) && decide (j.weight ≤ 1000)
set_option maxHeartbeats 8000000 in
theorem fields0 (g b : Nat) (At : Option Addr) (nt ct : Nat) (seen : List Int) (j : JobN) (al : Bool) (Ar Av Ap : Option Addr) (nr cr nv cv np cp : Nat) (w : World) (h0 : w.cell? ⟨g, 0, none⟩ = some (.slice At nt ct))
    (h3 : w.cell? ⟨g, 3, none⟩ = some (.int .i64 j.name)) (h4 : w.cell? ⟨g, 4, none⟩ = some (.int .i64 j.run)) (h5 : w.cell? ⟨g, 5, none⟩ = some (.int .i64 j.stage)) (h6 : w.cell? ⟨g, 6, none⟩ = some (.int .i64 j.when_)) (h7 : w.cell? ⟨g, 7, none⟩ = some (.bool al))
    (h8 : w.cell? ⟨g, 8, none⟩ = some (.int .i64 j.weight)) (h9 : w.cell? ⟨g, 9, none⟩ = some (.slice Ar nr cr)) (h10 : w.cell? ⟨g, 10, none⟩ = some (.slice Av nv cv)) (h11 : w.cell? ⟨g, 11, none⟩ = some (.slice Ap np cp)) (h12 : w.cell? ⟨g, 12, none⟩ = some (.map (some b)))
    (hgb' : ¬ g = b) (hM : NamesM w b seen) (hs : seen.length ≤ 256) (hw : (Lit.int .i64 j.name).wf = true) :
    Calls Try.prog 64 #[.pointer (some ⟨g, 0, none⟩)] w fun e w' => e = .returned (.int .i64 (if fieldsB nt seen j = true then 0 else 171)) ∧ But (One b) w w' ∧ NamesM w' b (j.name :: seen) := by
  have hgl : g < w.heap.size := block_lt_of_cell h0
  have hne : ¬ w.heap.size = g := by omega
  have hgb : ¬ g = b := hgb'
  obtain ⟨D, hD, hDm, hDc⟩ := hM
  have hbl : b < w.heap.size := hD.lt
  have hbs : ¬ w.heap.size = b := by omega
  have hbs' : ¬ b = w.heap.size := by omega
  have hcle : seen.count j.name ≤ 256 := Nat.le_trans List.count_le_length hs
  obtain ⟨R, hR⟩ : ∃ R, (if fieldsB nt seen j = true then (0 : Int) else 171) = R := ⟨_, rfl⟩
  rw [hR]
  have HR := Lib.hid hR
  clear hR
  go_enter Try.func64, Try.ntmps64
  go_wp2_with fail
  refine wp_region_held_drew (S := fun w' => w'.cell? ⟨g, 12, none⟩ = some (.map (some b)) ∧ w'.cell? ⟨w.heap.size, 0, none⟩ = some (.int .i64 j.name)) (by kernel_rfl) ⟨by go_simp, by go_simp⟩ (fun _ => ?_)
  refine wpAnyH_take (i := 0) rfl (by kernel_rfl) (by kernel_rfl) (by kernel_rfl) (fun _ _ _ h => h) (Or.inl ⟨by kernel_rfl, fun w ⟨e1, e2⟩ => by go_simp <;> (with_reducible rfl)⟩) ⟨by go_simp, by go_simp⟩ ?_
  try simp only [Act.put, List.setIfInBounds_toArray, List.set_cons_zero, List.set_cons_succ, List.getElem_toArray, List.getElem_cons_zero, List.getElem_cons_succ]
  refine wpAnyH_take (i := 1) rfl (by kernel_rfl) (by kernel_rfl) (by kernel_rfl) (fun _ _ _ h => h) (Or.inl ⟨by kernel_rfl, fun w ⟨e1, e2⟩ => by go_simp <;> (with_reducible rfl)⟩) ⟨by go_simp, by go_simp⟩ ?_
  try simp only [Act.put, List.setIfInBounds_toArray, List.set_cons_zero, List.set_cons_succ, List.getElem_toArray, List.getElem_cons_zero, List.getElem_cons_succ]
  refine wpAnyH_take (i := 2) rfl (by kernel_rfl) (by kernel_rfl) (by kernel_rfl) (fun _ _ _ h => h) (Or.inl ⟨by kernel_rfl, fun w ⟨e1, e2⟩ => by go_simp <;> (with_reducible rfl)⟩) ⟨by go_simp, by go_simp⟩ ?_
  try simp only [Act.put, List.setIfInBounds_toArray, List.set_cons_zero, List.set_cons_succ, List.getElem_toArray, List.getElem_cons_zero, List.getElem_cons_succ]
  refine wpAnyH_take (i := 3) rfl (by kernel_rfl) (by kernel_rfl) (by kernel_rfl) (fun _ _ _ h => h) (Or.inl ⟨by kernel_rfl, fun w ⟨e1, e2⟩ => by go_simp <;> (with_reducible rfl)⟩) ⟨by go_simp, by go_simp⟩ ?_
  try simp only [Act.put, List.setIfInBounds_toArray, List.set_cons_zero, List.set_cons_succ, List.getElem_toArray, List.getElem_cons_zero, List.getElem_cons_succ]
  refine wpAnyH_take (i := 4) rfl (by kernel_rfl) (by kernel_rfl) (by kernel_rfl) (fun _ _ _ h => h) (Or.inl ⟨by kernel_rfl, fun w ⟨e1, e2⟩ => by go_simp <;> (with_reducible rfl)⟩) ⟨by go_simp, by go_simp⟩ ?_
  try simp only [Act.put, List.setIfInBounds_toArray, List.set_cons_zero, List.set_cons_succ, List.getElem_toArray, List.getElem_cons_zero, List.getElem_cons_succ]
  refine wpAnyH_take (i := 5) rfl (by kernel_rfl) (by kernel_rfl) (by kernel_rfl) (fun _ _ _ h => h) (Or.inl ⟨by kernel_rfl, fun w ⟨e1, e2⟩ => by go_simp <;> (with_reducible rfl)⟩) ⟨by go_simp, by go_simp⟩ ?_
  try simp only [Act.put, List.setIfInBounds_toArray, List.set_cons_zero, List.set_cons_succ, List.getElem_toArray, List.getElem_cons_zero, List.getElem_cons_succ]
  refine wpAnyH_ready (rs := [6]) (by kernel_rfl) (by simp) (AllReadyH.cons rfl (fun K hK => ?_) AllReadyH.nil)
  rw [if_pos (by kernel_rfl)]
  refine mapLook _ _ _ 92 rfl (some 14) rfl 3 3 .i64 law3J Try.underlying92 Try.underlying3 (zero3J _) b seen.length D rfl (hD.alloc _).drew _ _ rfl (keyOf_int_mk Try.underlying3 hw) ?_
  intro c hat hwc
  have hcc := NamesM.at hDc hat
  have hc0 : 0 ≤ c := by omega
  have hc1 : c ≤ 256 := by omega
  have HCC := Lib.hid hcc
  clear hcc hat hwc
  refine hK.out _ _ ⟨by go_simp, by go_simp⟩ (fun _ => ?_)
  try simp only [Act.put, List.setIfInBounds_toArray, List.set_cons_zero, List.set_cons_succ, List.getElem_toArray, List.getElem_cons_zero, List.getElem_cons_succ]
  refine wpAnyH_take (i := 7) rfl (by kernel_rfl) (by kernel_rfl) (by kernel_rfl) (fun _ _ _ h => h) (Or.inl ⟨by kernel_rfl, fun w ⟨e1, e2⟩ => by go_simp <;> (with_reducible rfl)⟩) ⟨by go_simp, by go_simp⟩ ?_
  try simp only [Act.put, List.setIfInBounds_toArray, List.set_cons_zero, List.set_cons_succ, List.getElem_toArray, List.getElem_cons_zero, List.getElem_cons_succ]
  rw [show IntKind.i64.wrap (c + 1) = c + 1 from by rw [IntKind.wrap_i64]; omega]
  refine wpAnyH_ready (rs := [8]) (by kernel_rfl) (by simp) (AllReadyH.cons rfl (fun K2 hK2 => ?_) AllReadyH.nil)
  rw [if_pos (by kernel_rfl)]
  refine mapPut _ _ _ _ 92 rfl none rfl 3 3 law3J Try.underlying92 (plainElem Try.prog 3) b seen.length D rfl (hD.alloc _).drew (by unfold maxLen; omega) _ _ _ rfl rfl (keyOf_int_mk Try.underlying3 hw) _ [] (plainElem_int Try.underlying3 (wfI (c + 1) (by omega))) ?_
  intro w2 hD2 hg2
  have hB2 : But (One b) w w2 := (((But.refl (One b) w).alloc _).drew).grown hg2 (fun k hk => .inl (by injection hk with hk; exact hk.symm))
  have hsz2 : w.heap.size < w2.heap.size := by
    have := hg2.size
    simp at this
    omega
  have HN2 := Lib.hid (NamesM.put hDm hDc (by rw [HCC.out]) hD2)
  have q0 := hB2.cell_some h0 hgb
  have q12 := hB2.cell_some h12 hgb
  have HQ := Lib.hid (hg2.block w.heap.size (by simp) (fun e => hbs (by injection e)))
  have hq : ∀ (i : Nat) (v : Value), (w.alloc (.cells #[.int .i64 j.name, .int .i64 j.run, .int .i64 j.stage, .int .i64 j.when_, .bool al, .int .i64 j.weight, .slice Ar nr cr, .slice Av nv cv, .slice Ap np cp] 52)).cell? ⟨w.heap.size, i, none⟩ = some v → w2.cell? ⟨w.heap.size, i, none⟩ = some v := fun i v h => (World.cell?_of_block HQ.out).trans h
  have p0 := hq 0 (.int .i64 j.name) (by go_simp)
  have p1 := hq 1 (.int .i64 j.run) (by go_simp)
  have p2 := hq 2 (.int .i64 j.stage) (by go_simp)
  have p3 := hq 3 (.int .i64 j.when_) (by go_simp)
  have p5 := hq 5 (.int .i64 j.weight) (by go_simp)
  have HB2 := Lib.hid hB2
  clear hq hg2 hD2 hB2 hD h0 h3 h4 h5 h6 h7 h8 h9 h10 h11 h12 hDm hDc
  refine hK2.out _ _ ⟨q12, p0⟩ (fun _ => ?_)
  try simp only [Act.put, List.setIfInBounds_toArray, List.set_cons_zero, List.set_cons_succ, List.getElem_toArray, List.getElem_cons_zero, List.getElem_cons_succ]
  refine wpAnyH_done (by kernel_rfl) ?_ _
  go_wp2
  obtain ⟨D2, hD2, hDm2, hDc2⟩ := HN2.out
  obtain ⟨z, hz⟩ : ∃ z : Int, z = ((List.count j.name (j.name :: seen) : Nat) : Int) := ⟨_, rfl⟩
  have hat : D2.atKey (.int .i64 j.name) (.lit (.int .i64 0)) = .lit (.int .i64 z) := by rw [hDc2, hz]
  have HZ := Lib.hid (show z = 1 ↔ seen.count j.name = 0 from by rw [hz, List.count_cons_self]; omega)
  clear hz hDm2 hDc2 hcle hc0 hc1
  obtain ⟨b1, hb1⟩ : ∃ b, textB j.name nt = b := ⟨_, rfl⟩
  have HB1 := Lib.hid hb1
  obtain ⟨b2, hb2⟩ : ∃ b, textB j.run nt = b := ⟨_, rfl⟩
  have HBB2 := Lib.hid hb2
  obtain ⟨b6, hb6⟩ : ∃ b, whenB j.when_ = b := ⟨_, rfl⟩
  have HB6 := Lib.hid hb6
  have HF := Lib.hid (show fieldsB nt seen j = (b1 && b2 && decide (seen.count j.name = 0) && decide (0 ≤ j.stage) && decide (j.stage < 64) && b6 && decide (0 ≤ j.weight) && decide (j.weight ≤ 1000)) from by unfold fieldsB; rw [hb1, hb2, hb6])
  clear hb1 hb2 hb6 HQ hs hbs hbs' hsz2 hgb hgb' HCC
  cases b1 with
  | false =>
    have E := Lib.hid (HR.out.symm.trans (show (if fieldsB nt seen j = true then (0 : Int) else 171) = 171 from by rw [HF.out]; rfl))
    refine wp_region_hq (by kernel_rfl) (by kernel_rfl) ?_
    refine hq_run (by kernel_rfl) (fun K hK => ?_); go_simp; refine hK _ ?_; clear hK K
    refine hq_run (by kernel_rfl) (fun K hK => ?_); go_simp; refine hK _ ?_; clear hK K
    refine hq_run (by kernel_rfl) (fun K hK => ?_); go_simp; refine hK _ ?_; clear hK K
    refine hq_run (by kernel_rfl) (fun K hK => ?_); go_simp; (apply Exists.intro; refine ⟨fun _ => ?_, hK _ ?_⟩; (first | (go_at_call 72; (first | (with_reducible refine Calls.quiet_of (text0q g j.name At nt ct _ HB1.out _ ?_); (first | assumption | go_simp)) | (with_reducible refine Calls.quiet_of (text0q g j.run At nt ct _ HBB2.out _ ?_); (first | assumption | go_simp)))) | (go_at_call 73; exact Calls.quiet_of (when0k j.when_ _ HB6.out _))); clear hK K)
    refine hq_run (by kernel_rfl) (fun K hK => ?_); go_simp; refine hK _ ?_; clear hK K
    refine hq_skip (by kernel_rfl) ?_; try simp only [Act.put, List.setIfInBounds_toArray, List.set_cons_zero, List.set_cons_succ, List.getElem_toArray, List.getElem_cons_zero, List.getElem_cons_succ]
    refine hq_skip (by kernel_rfl) ?_; try simp only [Act.put, List.setIfInBounds_toArray, List.set_cons_zero, List.set_cons_succ, List.getElem_toArray, List.getElem_cons_zero, List.getElem_cons_succ]
    refine hq_skip (by kernel_rfl) ?_; try simp only [Act.put, List.setIfInBounds_toArray, List.set_cons_zero, List.set_cons_succ, List.getElem_toArray, List.getElem_cons_zero, List.getElem_cons_succ]
    refine hq_skip (by kernel_rfl) ?_; try simp only [Act.put, List.setIfInBounds_toArray, List.set_cons_zero, List.set_cons_succ, List.getElem_toArray, List.getElem_cons_zero, List.getElem_cons_succ]
    refine hq_run (by kernel_rfl) (fun K hK => ?_); go_simp; refine hK _ ?_; clear hK K
    refine hq_run (by kernel_rfl) (fun K hK => ?_); go_simp; refine hK _ ?_; clear hK K
    refine hq_skip (by kernel_rfl) ?_; try simp only [Act.put, List.setIfInBounds_toArray, List.set_cons_zero, List.set_cons_succ, List.getElem_toArray, List.getElem_cons_zero, List.getElem_cons_succ]
    refine hq_skip (by kernel_rfl) ?_; try simp only [Act.put, List.setIfInBounds_toArray, List.set_cons_zero, List.set_cons_succ, List.getElem_toArray, List.getElem_cons_zero, List.getElem_cons_succ]
    refine hq_skip (by kernel_rfl) ?_; try simp only [Act.put, List.setIfInBounds_toArray, List.set_cons_zero, List.set_cons_succ, List.getElem_toArray, List.getElem_cons_zero, List.getElem_cons_succ]
    refine hq_skip (by kernel_rfl) ?_; try simp only [Act.put, List.setIfInBounds_toArray, List.set_cons_zero, List.set_cons_succ, List.getElem_toArray, List.getElem_cons_zero, List.getElem_cons_succ]
    refine hq_skip (by kernel_rfl) ?_; try simp only [Act.put, List.setIfInBounds_toArray, List.set_cons_zero, List.set_cons_succ, List.getElem_toArray, List.getElem_cons_zero, List.getElem_cons_succ]
    refine hq_skip (by kernel_rfl) ?_; try simp only [Act.put, List.setIfInBounds_toArray, List.set_cons_zero, List.set_cons_succ, List.getElem_toArray, List.getElem_cons_zero, List.getElem_cons_succ]
    refine hq_skip (by kernel_rfl) ?_; try simp only [Act.put, List.setIfInBounds_toArray, List.set_cons_zero, List.set_cons_succ, List.getElem_toArray, List.getElem_cons_zero, List.getElem_cons_succ]
    refine hq_skip (by kernel_rfl) ?_; try simp only [Act.put, List.setIfInBounds_toArray, List.set_cons_zero, List.set_cons_succ, List.getElem_toArray, List.getElem_cons_zero, List.getElem_cons_succ]
    refine hq_run (by kernel_rfl) (fun K hK => ?_); go_simp; refine hK _ ?_; clear hK K
    refine hq_run (by kernel_rfl) (fun K hK => ?_); go_simp; refine hK _ ?_; clear hK K
    refine hq_skip (by kernel_rfl) ?_; try simp only [Act.put, List.setIfInBounds_toArray, List.set_cons_zero, List.set_cons_succ, List.getElem_toArray, List.getElem_cons_zero, List.getElem_cons_succ]
    refine hq_skip (by kernel_rfl) ?_; try simp only [Act.put, List.setIfInBounds_toArray, List.set_cons_zero, List.set_cons_succ, List.getElem_toArray, List.getElem_cons_zero, List.getElem_cons_succ]
    refine hq_skip (by kernel_rfl) ?_; try simp only [Act.put, List.setIfInBounds_toArray, List.set_cons_zero, List.set_cons_succ, List.getElem_toArray, List.getElem_cons_zero, List.getElem_cons_succ]
    refine hq_run (by kernel_rfl) (fun K hK => ?_); go_simp; refine hK _ ?_; clear hK K
    refine hq_run (by kernel_rfl) (fun K hK => ?_); go_simp; refine hK _ ?_; clear hK K
    refine hq_skip (by kernel_rfl) ?_; try simp only [Act.put, List.setIfInBounds_toArray, List.set_cons_zero, List.set_cons_succ, List.getElem_toArray, List.getElem_cons_zero, List.getElem_cons_succ]
    refine hq_skip (by kernel_rfl) ?_; try simp only [Act.put, List.setIfInBounds_toArray, List.set_cons_zero, List.set_cons_succ, List.getElem_toArray, List.getElem_cons_zero, List.getElem_cons_succ]
    refine hq_skip (by kernel_rfl) ?_; try simp only [Act.put, List.setIfInBounds_toArray, List.set_cons_zero, List.set_cons_succ, List.getElem_toArray, List.getElem_cons_zero, List.getElem_cons_succ]
    refine hq_run (by kernel_rfl) (fun K hK => ?_); go_simp; refine hK _ ?_; clear hK K
    refine hq_run (by kernel_rfl) (fun K hK => ?_); go_simp; refine hK _ ?_; clear hK K
    refine hq_skip (by kernel_rfl) ?_; try simp only [Act.put, List.setIfInBounds_toArray, List.set_cons_zero, List.set_cons_succ, List.getElem_toArray, List.getElem_cons_zero, List.getElem_cons_succ]
    refine hq_skip (by kernel_rfl) ?_; try simp only [Act.put, List.setIfInBounds_toArray, List.set_cons_zero, List.set_cons_succ, List.getElem_toArray, List.getElem_cons_zero, List.getElem_cons_succ]
    refine hq_skip (by kernel_rfl) ?_; try simp only [Act.put, List.setIfInBounds_toArray, List.set_cons_zero, List.set_cons_succ, List.getElem_toArray, List.getElem_cons_zero, List.getElem_cons_succ]
    refine hq_run (by kernel_rfl) (fun K hK => ?_); go_simp; refine hK _ ?_; clear hK K
    refine hq_run (by kernel_rfl) (fun K hK => ?_); go_simp; refine hK _ ?_; clear hK K
    refine hq_skip (by kernel_rfl) ?_; try simp only [Act.put, List.setIfInBounds_toArray, List.set_cons_zero, List.set_cons_succ, List.getElem_toArray, List.getElem_cons_zero, List.getElem_cons_succ]
    refine hq_skip (by kernel_rfl) ?_; try simp only [Act.put, List.setIfInBounds_toArray, List.set_cons_zero, List.set_cons_succ, List.getElem_toArray, List.getElem_cons_zero, List.getElem_cons_succ]
    refine hq_skip (by kernel_rfl) ?_; try simp only [Act.put, List.setIfInBounds_toArray, List.set_cons_zero, List.set_cons_succ, List.getElem_toArray, List.getElem_cons_zero, List.getElem_cons_succ]
    refine hq_run (by kernel_rfl) (fun K hK => ?_); go_simp; refine hK _ ?_; clear hK K
    refine hq_run (by kernel_rfl) (fun K hK => ?_); go_simp; refine hK _ ?_; clear hK K
    refine hq_skip (by kernel_rfl) ?_; try simp only [Act.put, List.setIfInBounds_toArray, List.set_cons_zero, List.set_cons_succ, List.getElem_toArray, List.getElem_cons_zero, List.getElem_cons_succ]
    refine hq_skip (by kernel_rfl) ?_; try simp only [Act.put, List.setIfInBounds_toArray, List.set_cons_zero, List.set_cons_succ, List.getElem_toArray, List.getElem_cons_zero, List.getElem_cons_succ]
    refine hq_skip (by kernel_rfl) ?_; try simp only [Act.put, List.setIfInBounds_toArray, List.set_cons_zero, List.set_cons_succ, List.getElem_toArray, List.getElem_cons_zero, List.getElem_cons_succ]
    refine hq_run (by kernel_rfl) (fun K hK => ?_); go_simp; refine hK _ ?_; clear hK K
    refine hq_nil ?_
    intro _ hw'
    obtain ⟨nq, hw''⟩ := hw'
    subst hw''
    go_wp2_with fail
    go_ret
    exact ⟨by rw [E.out]; rfl, HB2.out.drewN _, HN2.out⟩
  | true =>
  cases b2 with
  | false =>
    have E := Lib.hid (HR.out.symm.trans (show (if fieldsB nt seen j = true then (0 : Int) else 171) = 171 from by rw [HF.out]; rfl))
    refine wp_region_hq (by kernel_rfl) (by kernel_rfl) ?_
    refine hq_run (by kernel_rfl) (fun K hK => ?_); go_simp; refine hK _ ?_; clear hK K
    refine hq_run (by kernel_rfl) (fun K hK => ?_); go_simp; refine hK _ ?_; clear hK K
    refine hq_run (by kernel_rfl) (fun K hK => ?_); go_simp; refine hK _ ?_; clear hK K
    refine hq_run (by kernel_rfl) (fun K hK => ?_); go_simp; (apply Exists.intro; refine ⟨fun _ => ?_, hK _ ?_⟩; (first | (go_at_call 72; (first | (with_reducible refine Calls.quiet_of (text0q g j.name At nt ct _ HB1.out _ ?_); (first | assumption | go_simp)) | (with_reducible refine Calls.quiet_of (text0q g j.run At nt ct _ HBB2.out _ ?_); (first | assumption | go_simp)))) | (go_at_call 73; exact Calls.quiet_of (when0k j.when_ _ HB6.out _))); clear hK K)
    refine hq_run (by kernel_rfl) (fun K hK => ?_); go_simp; refine hK _ ?_; clear hK K
    refine hq_run (by kernel_rfl) (fun K hK => ?_); go_simp; refine hK _ ?_; clear hK K
    refine hq_run (by kernel_rfl) (fun K hK => ?_); go_simp; refine hK _ ?_; clear hK K
    refine hq_run (by kernel_rfl) (fun K hK => ?_); go_simp; refine hK _ ?_; clear hK K
    refine hq_run (by kernel_rfl) (fun K hK => ?_); go_simp; (apply Exists.intro; refine ⟨fun _ => ?_, hK _ ?_⟩; (first | (go_at_call 72; (first | (with_reducible refine Calls.quiet_of (text0q g j.name At nt ct _ HB1.out _ ?_); (first | assumption | go_simp)) | (with_reducible refine Calls.quiet_of (text0q g j.run At nt ct _ HBB2.out _ ?_); (first | assumption | go_simp)))) | (go_at_call 73; exact Calls.quiet_of (when0k j.when_ _ HB6.out _))); clear hK K)
    refine hq_run (by kernel_rfl) (fun K hK => ?_); go_simp; refine hK _ ?_; clear hK K
    refine hq_run (by kernel_rfl) (fun K hK => ?_); go_simp; refine hK _ ?_; clear hK K
    refine hq_skip (by kernel_rfl) ?_; try simp only [Act.put, List.setIfInBounds_toArray, List.set_cons_zero, List.set_cons_succ, List.getElem_toArray, List.getElem_cons_zero, List.getElem_cons_succ]
    refine hq_skip (by kernel_rfl) ?_; try simp only [Act.put, List.setIfInBounds_toArray, List.set_cons_zero, List.set_cons_succ, List.getElem_toArray, List.getElem_cons_zero, List.getElem_cons_succ]
    refine hq_skip (by kernel_rfl) ?_; try simp only [Act.put, List.setIfInBounds_toArray, List.set_cons_zero, List.set_cons_succ, List.getElem_toArray, List.getElem_cons_zero, List.getElem_cons_succ]
    refine hq_skip (by kernel_rfl) ?_; try simp only [Act.put, List.setIfInBounds_toArray, List.set_cons_zero, List.set_cons_succ, List.getElem_toArray, List.getElem_cons_zero, List.getElem_cons_succ]
    refine hq_skip (by kernel_rfl) ?_; try simp only [Act.put, List.setIfInBounds_toArray, List.set_cons_zero, List.set_cons_succ, List.getElem_toArray, List.getElem_cons_zero, List.getElem_cons_succ]
    refine hq_skip (by kernel_rfl) ?_; try simp only [Act.put, List.setIfInBounds_toArray, List.set_cons_zero, List.set_cons_succ, List.getElem_toArray, List.getElem_cons_zero, List.getElem_cons_succ]
    refine hq_skip (by kernel_rfl) ?_; try simp only [Act.put, List.setIfInBounds_toArray, List.set_cons_zero, List.set_cons_succ, List.getElem_toArray, List.getElem_cons_zero, List.getElem_cons_succ]
    refine hq_skip (by kernel_rfl) ?_; try simp only [Act.put, List.setIfInBounds_toArray, List.set_cons_zero, List.set_cons_succ, List.getElem_toArray, List.getElem_cons_zero, List.getElem_cons_succ]
    refine hq_run (by kernel_rfl) (fun K hK => ?_); go_simp; refine hK _ ?_; clear hK K
    refine hq_run (by kernel_rfl) (fun K hK => ?_); go_simp; refine hK _ ?_; clear hK K
    refine hq_skip (by kernel_rfl) ?_; try simp only [Act.put, List.setIfInBounds_toArray, List.set_cons_zero, List.set_cons_succ, List.getElem_toArray, List.getElem_cons_zero, List.getElem_cons_succ]
    refine hq_skip (by kernel_rfl) ?_; try simp only [Act.put, List.setIfInBounds_toArray, List.set_cons_zero, List.set_cons_succ, List.getElem_toArray, List.getElem_cons_zero, List.getElem_cons_succ]
    refine hq_skip (by kernel_rfl) ?_; try simp only [Act.put, List.setIfInBounds_toArray, List.set_cons_zero, List.set_cons_succ, List.getElem_toArray, List.getElem_cons_zero, List.getElem_cons_succ]
    refine hq_run (by kernel_rfl) (fun K hK => ?_); go_simp; refine hK _ ?_; clear hK K
    refine hq_run (by kernel_rfl) (fun K hK => ?_); go_simp; refine hK _ ?_; clear hK K
    refine hq_skip (by kernel_rfl) ?_; try simp only [Act.put, List.setIfInBounds_toArray, List.set_cons_zero, List.set_cons_succ, List.getElem_toArray, List.getElem_cons_zero, List.getElem_cons_succ]
    refine hq_skip (by kernel_rfl) ?_; try simp only [Act.put, List.setIfInBounds_toArray, List.set_cons_zero, List.set_cons_succ, List.getElem_toArray, List.getElem_cons_zero, List.getElem_cons_succ]
    refine hq_skip (by kernel_rfl) ?_; try simp only [Act.put, List.setIfInBounds_toArray, List.set_cons_zero, List.set_cons_succ, List.getElem_toArray, List.getElem_cons_zero, List.getElem_cons_succ]
    refine hq_run (by kernel_rfl) (fun K hK => ?_); go_simp; refine hK _ ?_; clear hK K
    refine hq_run (by kernel_rfl) (fun K hK => ?_); go_simp; refine hK _ ?_; clear hK K
    refine hq_skip (by kernel_rfl) ?_; try simp only [Act.put, List.setIfInBounds_toArray, List.set_cons_zero, List.set_cons_succ, List.getElem_toArray, List.getElem_cons_zero, List.getElem_cons_succ]
    refine hq_skip (by kernel_rfl) ?_; try simp only [Act.put, List.setIfInBounds_toArray, List.set_cons_zero, List.set_cons_succ, List.getElem_toArray, List.getElem_cons_zero, List.getElem_cons_succ]
    refine hq_skip (by kernel_rfl) ?_; try simp only [Act.put, List.setIfInBounds_toArray, List.set_cons_zero, List.set_cons_succ, List.getElem_toArray, List.getElem_cons_zero, List.getElem_cons_succ]
    refine hq_run (by kernel_rfl) (fun K hK => ?_); go_simp; refine hK _ ?_; clear hK K
    refine hq_run (by kernel_rfl) (fun K hK => ?_); go_simp; refine hK _ ?_; clear hK K
    refine hq_skip (by kernel_rfl) ?_; try simp only [Act.put, List.setIfInBounds_toArray, List.set_cons_zero, List.set_cons_succ, List.getElem_toArray, List.getElem_cons_zero, List.getElem_cons_succ]
    refine hq_skip (by kernel_rfl) ?_; try simp only [Act.put, List.setIfInBounds_toArray, List.set_cons_zero, List.set_cons_succ, List.getElem_toArray, List.getElem_cons_zero, List.getElem_cons_succ]
    refine hq_skip (by kernel_rfl) ?_; try simp only [Act.put, List.setIfInBounds_toArray, List.set_cons_zero, List.set_cons_succ, List.getElem_toArray, List.getElem_cons_zero, List.getElem_cons_succ]
    refine hq_run (by kernel_rfl) (fun K hK => ?_); go_simp; refine hK _ ?_; clear hK K
    refine hq_run (by kernel_rfl) (fun K hK => ?_); go_simp; refine hK _ ?_; clear hK K
    refine hq_skip (by kernel_rfl) ?_; try simp only [Act.put, List.setIfInBounds_toArray, List.set_cons_zero, List.set_cons_succ, List.getElem_toArray, List.getElem_cons_zero, List.getElem_cons_succ]
    refine hq_skip (by kernel_rfl) ?_; try simp only [Act.put, List.setIfInBounds_toArray, List.set_cons_zero, List.set_cons_succ, List.getElem_toArray, List.getElem_cons_zero, List.getElem_cons_succ]
    refine hq_skip (by kernel_rfl) ?_; try simp only [Act.put, List.setIfInBounds_toArray, List.set_cons_zero, List.set_cons_succ, List.getElem_toArray, List.getElem_cons_zero, List.getElem_cons_succ]
    refine hq_run (by kernel_rfl) (fun K hK => ?_); go_simp; refine hK _ ?_; clear hK K
    refine hq_nil ?_
    intro _ hw'
    obtain ⟨nq, hw''⟩ := hw'
    subst hw''
    go_wp2_with fail
    go_ret
    exact ⟨by rw [E.out]; rfl, HB2.out.drewN _, HN2.out⟩
  | true =>
  by_cases c3 : z = 1
  case neg =>
    have d3 : (z == 1) = false := by simpa using c3
    have d3' : decide (z = 1) = false := decide_eq_false c3
    have d4 : ¬ seen.count j.name = 0 := fun h => c3 (HZ.out.2 h)
    have D4 := Lib.hid (decide_eq_false d4)
    clear d4
    have E := Lib.hid (HR.out.symm.trans (show (if fieldsB nt seen j = true then (0 : Int) else 171) = 171 from by rw [HF.out]; rw [D4.out]; rfl))
    refine wp_region_hq (by kernel_rfl) (by kernel_rfl) ?_
    refine hq_run (by kernel_rfl) (fun K hK => ?_); go_simp; refine hK _ ?_; clear hK K
    refine hq_run (by kernel_rfl) (fun K hK => ?_); go_simp; refine hK _ ?_; clear hK K
    refine hq_run (by kernel_rfl) (fun K hK => ?_); go_simp; refine hK _ ?_; clear hK K
    refine hq_run (by kernel_rfl) (fun K hK => ?_); go_simp; (apply Exists.intro; refine ⟨fun _ => ?_, hK _ ?_⟩; (first | (go_at_call 72; (first | (with_reducible refine Calls.quiet_of (text0q g j.name At nt ct _ HB1.out _ ?_); (first | assumption | go_simp)) | (with_reducible refine Calls.quiet_of (text0q g j.run At nt ct _ HBB2.out _ ?_); (first | assumption | go_simp)))) | (go_at_call 73; exact Calls.quiet_of (when0k j.when_ _ HB6.out _))); clear hK K)
    refine hq_run (by kernel_rfl) (fun K hK => ?_); go_simp; refine hK _ ?_; clear hK K
    refine hq_run (by kernel_rfl) (fun K hK => ?_); go_simp; refine hK _ ?_; clear hK K
    refine hq_run (by kernel_rfl) (fun K hK => ?_); go_simp; refine hK _ ?_; clear hK K
    refine hq_run (by kernel_rfl) (fun K hK => ?_); go_simp; refine hK _ ?_; clear hK K
    refine hq_run (by kernel_rfl) (fun K hK => ?_); go_simp; (apply Exists.intro; refine ⟨fun _ => ?_, hK _ ?_⟩; (first | (go_at_call 72; (first | (with_reducible refine Calls.quiet_of (text0q g j.name At nt ct _ HB1.out _ ?_); (first | assumption | go_simp)) | (with_reducible refine Calls.quiet_of (text0q g j.run At nt ct _ HBB2.out _ ?_); (first | assumption | go_simp)))) | (go_at_call 73; exact Calls.quiet_of (when0k j.when_ _ HB6.out _))); clear hK K)
    refine hq_run (by kernel_rfl) (fun K hK => ?_); go_simp; refine hK _ ?_; clear hK K
    refine hq_run (by kernel_rfl) (fun K hK => ?_); go_simp; refine hK _ ?_; clear hK K
    refine hq_run (by kernel_rfl) (fun K hK => ?_); go_simp; refine hK _ ?_; clear hK K
    refine hq_run (by kernel_rfl) (fun K hK => ?_); go_simp; refine hK _ ?_; clear hK K
    refine hq_run (by kernel_rfl) (fun K hK => ?_); go_simp; refine hK _ ?_; clear hK K
    refine hq_run (by kernel_rfl) (fun K hK => ?_); go_simp; refine hK _ ?_; clear hK K
    refine hq_run (by kernel_rfl) (fun K hK => ?_); go_simp; refine hK _ ?_; clear hK K
    refine hq_run (by kernel_rfl) (fun K hK => ?_); go_simp; refine hK _ ?_; clear hK K
    refine hq_run (by kernel_rfl) (fun K hK => ?_); refine mapLookQ _ _ _ 92 rfl (some 33) rfl 3 3 .i64 law3J Try.underlying92 Try.underlying3 (fun n => zero3J _) b _ D2 rfl hD2 _ _ rfl (keyOf_int_mk Try.underlying3 hw) _ hat ?_; try simp only [Act.put, List.setIfInBounds_toArray, List.set_cons_zero, List.set_cons_succ, List.getElem_toArray, List.getElem_cons_zero, List.getElem_cons_succ]; refine hK _ ?_; clear hK K
    refine hq_run (by kernel_rfl) (fun K hK => ?_); go_simp; refine hK _ ?_; clear hK K
    refine hq_run (by kernel_rfl) (fun K hK => ?_); go_simp; refine hK _ ?_; clear hK K
    refine hq_run (by kernel_rfl) (fun K hK => ?_); go_simp; refine hK _ ?_; clear hK K
    refine hq_skip (by kernel_rfl) ?_; try simp only [Act.put, List.setIfInBounds_toArray, List.set_cons_zero, List.set_cons_succ, List.getElem_toArray, List.getElem_cons_zero, List.getElem_cons_succ]
    refine hq_skip (by kernel_rfl) ?_; try simp only [Act.put, List.setIfInBounds_toArray, List.set_cons_zero, List.set_cons_succ, List.getElem_toArray, List.getElem_cons_zero, List.getElem_cons_succ]
    refine hq_skip (by kernel_rfl) ?_; try simp only [Act.put, List.setIfInBounds_toArray, List.set_cons_zero, List.set_cons_succ, List.getElem_toArray, List.getElem_cons_zero, List.getElem_cons_succ]
    refine hq_run (by kernel_rfl) (fun K hK => ?_); go_simp; refine hK _ ?_; clear hK K
    refine hq_run (by kernel_rfl) (fun K hK => ?_); go_simp; refine hK _ ?_; clear hK K
    refine hq_skip (by kernel_rfl) ?_; try simp only [Act.put, List.setIfInBounds_toArray, List.set_cons_zero, List.set_cons_succ, List.getElem_toArray, List.getElem_cons_zero, List.getElem_cons_succ]
    refine hq_skip (by kernel_rfl) ?_; try simp only [Act.put, List.setIfInBounds_toArray, List.set_cons_zero, List.set_cons_succ, List.getElem_toArray, List.getElem_cons_zero, List.getElem_cons_succ]
    refine hq_skip (by kernel_rfl) ?_; try simp only [Act.put, List.setIfInBounds_toArray, List.set_cons_zero, List.set_cons_succ, List.getElem_toArray, List.getElem_cons_zero, List.getElem_cons_succ]
    refine hq_run (by kernel_rfl) (fun K hK => ?_); go_simp; refine hK _ ?_; clear hK K
    refine hq_run (by kernel_rfl) (fun K hK => ?_); go_simp; refine hK _ ?_; clear hK K
    refine hq_skip (by kernel_rfl) ?_; try simp only [Act.put, List.setIfInBounds_toArray, List.set_cons_zero, List.set_cons_succ, List.getElem_toArray, List.getElem_cons_zero, List.getElem_cons_succ]
    refine hq_skip (by kernel_rfl) ?_; try simp only [Act.put, List.setIfInBounds_toArray, List.set_cons_zero, List.set_cons_succ, List.getElem_toArray, List.getElem_cons_zero, List.getElem_cons_succ]
    refine hq_skip (by kernel_rfl) ?_; try simp only [Act.put, List.setIfInBounds_toArray, List.set_cons_zero, List.set_cons_succ, List.getElem_toArray, List.getElem_cons_zero, List.getElem_cons_succ]
    refine hq_run (by kernel_rfl) (fun K hK => ?_); go_simp; refine hK _ ?_; clear hK K
    refine hq_run (by kernel_rfl) (fun K hK => ?_); go_simp; refine hK _ ?_; clear hK K
    refine hq_skip (by kernel_rfl) ?_; try simp only [Act.put, List.setIfInBounds_toArray, List.set_cons_zero, List.set_cons_succ, List.getElem_toArray, List.getElem_cons_zero, List.getElem_cons_succ]
    refine hq_skip (by kernel_rfl) ?_; try simp only [Act.put, List.setIfInBounds_toArray, List.set_cons_zero, List.set_cons_succ, List.getElem_toArray, List.getElem_cons_zero, List.getElem_cons_succ]
    refine hq_skip (by kernel_rfl) ?_; try simp only [Act.put, List.setIfInBounds_toArray, List.set_cons_zero, List.set_cons_succ, List.getElem_toArray, List.getElem_cons_zero, List.getElem_cons_succ]
    refine hq_run (by kernel_rfl) (fun K hK => ?_); go_simp; refine hK _ ?_; clear hK K
    refine hq_run (by kernel_rfl) (fun K hK => ?_); go_simp; refine hK _ ?_; clear hK K
    refine hq_skip (by kernel_rfl) ?_; try simp only [Act.put, List.setIfInBounds_toArray, List.set_cons_zero, List.set_cons_succ, List.getElem_toArray, List.getElem_cons_zero, List.getElem_cons_succ]
    refine hq_skip (by kernel_rfl) ?_; try simp only [Act.put, List.setIfInBounds_toArray, List.set_cons_zero, List.set_cons_succ, List.getElem_toArray, List.getElem_cons_zero, List.getElem_cons_succ]
    refine hq_skip (by kernel_rfl) ?_; try simp only [Act.put, List.setIfInBounds_toArray, List.set_cons_zero, List.set_cons_succ, List.getElem_toArray, List.getElem_cons_zero, List.getElem_cons_succ]
    refine hq_run (by kernel_rfl) (fun K hK => ?_); go_simp; refine hK _ ?_; clear hK K
    refine hq_nil ?_
    intro _ hw'
    obtain ⟨nq, hw''⟩ := hw'
    subst hw''
    go_wp2_with fail
    go_ret
    exact ⟨by rw [E.out]; rfl, HB2.out.drewN _, HN2.out⟩
  have D4 := Lib.hid (decide_eq_true (HZ.out.1 c3))
  subst c3
  by_cases c4 : 0 ≤ j.stage
  case neg =>
    have d4 : decide (0 ≤ j.stage) = false := decide_eq_false c4
    have D5 := Lib.hid d4
    have d5 : j.stage < 0 := by omega
    have E := Lib.hid (HR.out.symm.trans (show (if fieldsB nt seen j = true then (0 : Int) else 171) = 171 from by rw [HF.out]; rw [D4.out, D5.out]; simp))
    refine wp_region_hq (by kernel_rfl) (by kernel_rfl) ?_
    refine hq_run (by kernel_rfl) (fun K hK => ?_); go_simp; refine hK _ ?_; clear hK K
    refine hq_run (by kernel_rfl) (fun K hK => ?_); go_simp; refine hK _ ?_; clear hK K
    refine hq_run (by kernel_rfl) (fun K hK => ?_); go_simp; refine hK _ ?_; clear hK K
    refine hq_run (by kernel_rfl) (fun K hK => ?_); go_simp; (apply Exists.intro; refine ⟨fun _ => ?_, hK _ ?_⟩; (first | (go_at_call 72; (first | (with_reducible refine Calls.quiet_of (text0q g j.name At nt ct _ HB1.out _ ?_); (first | assumption | go_simp)) | (with_reducible refine Calls.quiet_of (text0q g j.run At nt ct _ HBB2.out _ ?_); (first | assumption | go_simp)))) | (go_at_call 73; exact Calls.quiet_of (when0k j.when_ _ HB6.out _))); clear hK K)
    refine hq_run (by kernel_rfl) (fun K hK => ?_); go_simp; refine hK _ ?_; clear hK K
    refine hq_run (by kernel_rfl) (fun K hK => ?_); go_simp; refine hK _ ?_; clear hK K
    refine hq_run (by kernel_rfl) (fun K hK => ?_); go_simp; refine hK _ ?_; clear hK K
    refine hq_run (by kernel_rfl) (fun K hK => ?_); go_simp; refine hK _ ?_; clear hK K
    refine hq_run (by kernel_rfl) (fun K hK => ?_); go_simp; (apply Exists.intro; refine ⟨fun _ => ?_, hK _ ?_⟩; (first | (go_at_call 72; (first | (with_reducible refine Calls.quiet_of (text0q g j.name At nt ct _ HB1.out _ ?_); (first | assumption | go_simp)) | (with_reducible refine Calls.quiet_of (text0q g j.run At nt ct _ HBB2.out _ ?_); (first | assumption | go_simp)))) | (go_at_call 73; exact Calls.quiet_of (when0k j.when_ _ HB6.out _))); clear hK K)
    refine hq_run (by kernel_rfl) (fun K hK => ?_); go_simp; refine hK _ ?_; clear hK K
    refine hq_run (by kernel_rfl) (fun K hK => ?_); go_simp; refine hK _ ?_; clear hK K
    refine hq_run (by kernel_rfl) (fun K hK => ?_); go_simp; refine hK _ ?_; clear hK K
    refine hq_run (by kernel_rfl) (fun K hK => ?_); go_simp; refine hK _ ?_; clear hK K
    refine hq_run (by kernel_rfl) (fun K hK => ?_); go_simp; refine hK _ ?_; clear hK K
    refine hq_run (by kernel_rfl) (fun K hK => ?_); go_simp; refine hK _ ?_; clear hK K
    refine hq_run (by kernel_rfl) (fun K hK => ?_); go_simp; refine hK _ ?_; clear hK K
    refine hq_run (by kernel_rfl) (fun K hK => ?_); go_simp; refine hK _ ?_; clear hK K
    refine hq_run (by kernel_rfl) (fun K hK => ?_); refine mapLookQ _ _ _ 92 rfl (some 33) rfl 3 3 .i64 law3J Try.underlying92 Try.underlying3 (fun n => zero3J _) b _ D2 rfl hD2 _ _ rfl (keyOf_int_mk Try.underlying3 hw) _ hat ?_; try simp only [Act.put, List.setIfInBounds_toArray, List.set_cons_zero, List.set_cons_succ, List.getElem_toArray, List.getElem_cons_zero, List.getElem_cons_succ]; refine hK _ ?_; clear hK K
    refine hq_run (by kernel_rfl) (fun K hK => ?_); go_simp; refine hK _ ?_; clear hK K
    refine hq_run (by kernel_rfl) (fun K hK => ?_); go_simp; refine hK _ ?_; clear hK K
    refine hq_run (by kernel_rfl) (fun K hK => ?_); go_simp; refine hK _ ?_; clear hK K
    refine hq_run (by kernel_rfl) (fun K hK => ?_); go_simp; refine hK _ ?_; clear hK K
    refine hq_run (by kernel_rfl) (fun K hK => ?_); go_simp; refine hK _ ?_; clear hK K
    refine hq_run (by kernel_rfl) (fun K hK => ?_); go_simp; refine hK _ ?_; clear hK K
    refine hq_run (by kernel_rfl) (fun K hK => ?_); go_simp; refine hK _ ?_; clear hK K
    refine hq_run (by kernel_rfl) (fun K hK => ?_); go_simp; refine hK _ ?_; clear hK K
    refine hq_skip (by kernel_rfl) ?_; try simp only [Act.put, List.setIfInBounds_toArray, List.set_cons_zero, List.set_cons_succ, List.getElem_toArray, List.getElem_cons_zero, List.getElem_cons_succ]
    refine hq_skip (by kernel_rfl) ?_; try simp only [Act.put, List.setIfInBounds_toArray, List.set_cons_zero, List.set_cons_succ, List.getElem_toArray, List.getElem_cons_zero, List.getElem_cons_succ]
    refine hq_skip (by kernel_rfl) ?_; try simp only [Act.put, List.setIfInBounds_toArray, List.set_cons_zero, List.set_cons_succ, List.getElem_toArray, List.getElem_cons_zero, List.getElem_cons_succ]
    refine hq_run (by kernel_rfl) (fun K hK => ?_); go_simp; refine hK _ ?_; clear hK K
    refine hq_run (by kernel_rfl) (fun K hK => ?_); go_simp; refine hK _ ?_; clear hK K
    refine hq_skip (by kernel_rfl) ?_; try simp only [Act.put, List.setIfInBounds_toArray, List.set_cons_zero, List.set_cons_succ, List.getElem_toArray, List.getElem_cons_zero, List.getElem_cons_succ]
    refine hq_skip (by kernel_rfl) ?_; try simp only [Act.put, List.setIfInBounds_toArray, List.set_cons_zero, List.set_cons_succ, List.getElem_toArray, List.getElem_cons_zero, List.getElem_cons_succ]
    refine hq_skip (by kernel_rfl) ?_; try simp only [Act.put, List.setIfInBounds_toArray, List.set_cons_zero, List.set_cons_succ, List.getElem_toArray, List.getElem_cons_zero, List.getElem_cons_succ]
    refine hq_run (by kernel_rfl) (fun K hK => ?_); go_simp; refine hK _ ?_; clear hK K
    refine hq_run (by kernel_rfl) (fun K hK => ?_); go_simp; refine hK _ ?_; clear hK K
    refine hq_skip (by kernel_rfl) ?_; try simp only [Act.put, List.setIfInBounds_toArray, List.set_cons_zero, List.set_cons_succ, List.getElem_toArray, List.getElem_cons_zero, List.getElem_cons_succ]
    refine hq_skip (by kernel_rfl) ?_; try simp only [Act.put, List.setIfInBounds_toArray, List.set_cons_zero, List.set_cons_succ, List.getElem_toArray, List.getElem_cons_zero, List.getElem_cons_succ]
    refine hq_skip (by kernel_rfl) ?_; try simp only [Act.put, List.setIfInBounds_toArray, List.set_cons_zero, List.set_cons_succ, List.getElem_toArray, List.getElem_cons_zero, List.getElem_cons_succ]
    refine hq_run (by kernel_rfl) (fun K hK => ?_); go_simp; refine hK _ ?_; clear hK K
    refine hq_run (by kernel_rfl) (fun K hK => ?_); go_simp; refine hK _ ?_; clear hK K
    refine hq_skip (by kernel_rfl) ?_; try simp only [Act.put, List.setIfInBounds_toArray, List.set_cons_zero, List.set_cons_succ, List.getElem_toArray, List.getElem_cons_zero, List.getElem_cons_succ]
    refine hq_skip (by kernel_rfl) ?_; try simp only [Act.put, List.setIfInBounds_toArray, List.set_cons_zero, List.set_cons_succ, List.getElem_toArray, List.getElem_cons_zero, List.getElem_cons_succ]
    refine hq_skip (by kernel_rfl) ?_; try simp only [Act.put, List.setIfInBounds_toArray, List.set_cons_zero, List.set_cons_succ, List.getElem_toArray, List.getElem_cons_zero, List.getElem_cons_succ]
    refine hq_run (by kernel_rfl) (fun K hK => ?_); go_simp; refine hK _ ?_; clear hK K
    refine hq_nil ?_
    intro _ hw'
    obtain ⟨nq, hw''⟩ := hw'
    subst hw''
    go_wp2_with fail
    go_ret
    exact ⟨by rw [E.out]; rfl, HB2.out.drewN _, HN2.out⟩
  have da : decide (0 ≤ j.stage) = true := decide_eq_true c4
  by_cases c4 : j.stage < 64
  case neg =>
    have d4 : decide (j.stage < 64) = false := decide_eq_false c4
    have D5 := Lib.hid d4
    have d5 : 64 ≤ j.stage := by omega
    have E := Lib.hid (HR.out.symm.trans (show (if fieldsB nt seen j = true then (0 : Int) else 171) = 171 from by rw [HF.out]; rw [D4.out, D5.out]; simp))
    refine wp_region_hq (by kernel_rfl) (by kernel_rfl) ?_
    refine hq_run (by kernel_rfl) (fun K hK => ?_); go_simp; refine hK _ ?_; clear hK K
    refine hq_run (by kernel_rfl) (fun K hK => ?_); go_simp; refine hK _ ?_; clear hK K
    refine hq_run (by kernel_rfl) (fun K hK => ?_); go_simp; refine hK _ ?_; clear hK K
    refine hq_run (by kernel_rfl) (fun K hK => ?_); go_simp; (apply Exists.intro; refine ⟨fun _ => ?_, hK _ ?_⟩; (first | (go_at_call 72; (first | (with_reducible refine Calls.quiet_of (text0q g j.name At nt ct _ HB1.out _ ?_); (first | assumption | go_simp)) | (with_reducible refine Calls.quiet_of (text0q g j.run At nt ct _ HBB2.out _ ?_); (first | assumption | go_simp)))) | (go_at_call 73; exact Calls.quiet_of (when0k j.when_ _ HB6.out _))); clear hK K)
    refine hq_run (by kernel_rfl) (fun K hK => ?_); go_simp; refine hK _ ?_; clear hK K
    refine hq_run (by kernel_rfl) (fun K hK => ?_); go_simp; refine hK _ ?_; clear hK K
    refine hq_run (by kernel_rfl) (fun K hK => ?_); go_simp; refine hK _ ?_; clear hK K
    refine hq_run (by kernel_rfl) (fun K hK => ?_); go_simp; refine hK _ ?_; clear hK K
    refine hq_run (by kernel_rfl) (fun K hK => ?_); go_simp; (apply Exists.intro; refine ⟨fun _ => ?_, hK _ ?_⟩; (first | (go_at_call 72; (first | (with_reducible refine Calls.quiet_of (text0q g j.name At nt ct _ HB1.out _ ?_); (first | assumption | go_simp)) | (with_reducible refine Calls.quiet_of (text0q g j.run At nt ct _ HBB2.out _ ?_); (first | assumption | go_simp)))) | (go_at_call 73; exact Calls.quiet_of (when0k j.when_ _ HB6.out _))); clear hK K)
    refine hq_run (by kernel_rfl) (fun K hK => ?_); go_simp; refine hK _ ?_; clear hK K
    refine hq_run (by kernel_rfl) (fun K hK => ?_); go_simp; refine hK _ ?_; clear hK K
    refine hq_run (by kernel_rfl) (fun K hK => ?_); go_simp; refine hK _ ?_; clear hK K
    refine hq_run (by kernel_rfl) (fun K hK => ?_); go_simp; refine hK _ ?_; clear hK K
    refine hq_run (by kernel_rfl) (fun K hK => ?_); go_simp; refine hK _ ?_; clear hK K
    refine hq_run (by kernel_rfl) (fun K hK => ?_); go_simp; refine hK _ ?_; clear hK K
    refine hq_run (by kernel_rfl) (fun K hK => ?_); go_simp; refine hK _ ?_; clear hK K
    refine hq_run (by kernel_rfl) (fun K hK => ?_); go_simp; refine hK _ ?_; clear hK K
    refine hq_run (by kernel_rfl) (fun K hK => ?_); refine mapLookQ _ _ _ 92 rfl (some 33) rfl 3 3 .i64 law3J Try.underlying92 Try.underlying3 (fun n => zero3J _) b _ D2 rfl hD2 _ _ rfl (keyOf_int_mk Try.underlying3 hw) _ hat ?_; try simp only [Act.put, List.setIfInBounds_toArray, List.set_cons_zero, List.set_cons_succ, List.getElem_toArray, List.getElem_cons_zero, List.getElem_cons_succ]; refine hK _ ?_; clear hK K
    refine hq_run (by kernel_rfl) (fun K hK => ?_); go_simp; refine hK _ ?_; clear hK K
    refine hq_run (by kernel_rfl) (fun K hK => ?_); go_simp; refine hK _ ?_; clear hK K
    refine hq_run (by kernel_rfl) (fun K hK => ?_); go_simp; refine hK _ ?_; clear hK K
    refine hq_run (by kernel_rfl) (fun K hK => ?_); go_simp; refine hK _ ?_; clear hK K
    refine hq_run (by kernel_rfl) (fun K hK => ?_); go_simp; refine hK _ ?_; clear hK K
    refine hq_run (by kernel_rfl) (fun K hK => ?_); go_simp; refine hK _ ?_; clear hK K
    refine hq_run (by kernel_rfl) (fun K hK => ?_); go_simp; refine hK _ ?_; clear hK K
    refine hq_run (by kernel_rfl) (fun K hK => ?_); go_simp; refine hK _ ?_; clear hK K
    refine hq_run (by kernel_rfl) (fun K hK => ?_); go_simp; refine hK _ ?_; clear hK K
    refine hq_run (by kernel_rfl) (fun K hK => ?_); go_simp; refine hK _ ?_; clear hK K
    refine hq_run (by kernel_rfl) (fun K hK => ?_); go_simp; refine hK _ ?_; clear hK K
    refine hq_run (by kernel_rfl) (fun K hK => ?_); go_simp; refine hK _ ?_; clear hK K
    refine hq_run (by kernel_rfl) (fun K hK => ?_); go_simp; refine hK _ ?_; clear hK K
    refine hq_skip (by kernel_rfl) ?_; try simp only [Act.put, List.setIfInBounds_toArray, List.set_cons_zero, List.set_cons_succ, List.getElem_toArray, List.getElem_cons_zero, List.getElem_cons_succ]
    refine hq_skip (by kernel_rfl) ?_; try simp only [Act.put, List.setIfInBounds_toArray, List.set_cons_zero, List.set_cons_succ, List.getElem_toArray, List.getElem_cons_zero, List.getElem_cons_succ]
    refine hq_skip (by kernel_rfl) ?_; try simp only [Act.put, List.setIfInBounds_toArray, List.set_cons_zero, List.set_cons_succ, List.getElem_toArray, List.getElem_cons_zero, List.getElem_cons_succ]
    refine hq_run (by kernel_rfl) (fun K hK => ?_); go_simp; refine hK _ ?_; clear hK K
    refine hq_run (by kernel_rfl) (fun K hK => ?_); go_simp; refine hK _ ?_; clear hK K
    refine hq_skip (by kernel_rfl) ?_; try simp only [Act.put, List.setIfInBounds_toArray, List.set_cons_zero, List.set_cons_succ, List.getElem_toArray, List.getElem_cons_zero, List.getElem_cons_succ]
    refine hq_skip (by kernel_rfl) ?_; try simp only [Act.put, List.setIfInBounds_toArray, List.set_cons_zero, List.set_cons_succ, List.getElem_toArray, List.getElem_cons_zero, List.getElem_cons_succ]
    refine hq_skip (by kernel_rfl) ?_; try simp only [Act.put, List.setIfInBounds_toArray, List.set_cons_zero, List.set_cons_succ, List.getElem_toArray, List.getElem_cons_zero, List.getElem_cons_succ]
    refine hq_run (by kernel_rfl) (fun K hK => ?_); go_simp; refine hK _ ?_; clear hK K
    refine hq_run (by kernel_rfl) (fun K hK => ?_); go_simp; refine hK _ ?_; clear hK K
    refine hq_skip (by kernel_rfl) ?_; try simp only [Act.put, List.setIfInBounds_toArray, List.set_cons_zero, List.set_cons_succ, List.getElem_toArray, List.getElem_cons_zero, List.getElem_cons_succ]
    refine hq_skip (by kernel_rfl) ?_; try simp only [Act.put, List.setIfInBounds_toArray, List.set_cons_zero, List.set_cons_succ, List.getElem_toArray, List.getElem_cons_zero, List.getElem_cons_succ]
    refine hq_skip (by kernel_rfl) ?_; try simp only [Act.put, List.setIfInBounds_toArray, List.set_cons_zero, List.set_cons_succ, List.getElem_toArray, List.getElem_cons_zero, List.getElem_cons_succ]
    refine hq_run (by kernel_rfl) (fun K hK => ?_); go_simp; refine hK _ ?_; clear hK K
    refine hq_nil ?_
    intro _ hw'
    obtain ⟨nq, hw''⟩ := hw'
    subst hw''
    go_wp2_with fail
    go_ret
    exact ⟨by rw [E.out]; rfl, HB2.out.drewN _, HN2.out⟩
  have db : decide (j.stage < 64) = true := decide_eq_true c4
  cases b6 with
  | false =>
    have E := Lib.hid (HR.out.symm.trans (show (if fieldsB nt seen j = true then (0 : Int) else 171) = 171 from by rw [HF.out]; simp))
    refine wp_region_hq (by kernel_rfl) (by kernel_rfl) ?_
    refine hq_run (by kernel_rfl) (fun K hK => ?_); go_simp; refine hK _ ?_; clear hK K
    refine hq_run (by kernel_rfl) (fun K hK => ?_); go_simp; refine hK _ ?_; clear hK K
    refine hq_run (by kernel_rfl) (fun K hK => ?_); go_simp; refine hK _ ?_; clear hK K
    refine hq_run (by kernel_rfl) (fun K hK => ?_); go_simp; (apply Exists.intro; refine ⟨fun _ => ?_, hK _ ?_⟩; (first | (go_at_call 72; (first | (with_reducible refine Calls.quiet_of (text0q g j.name At nt ct _ HB1.out _ ?_); (first | assumption | go_simp)) | (with_reducible refine Calls.quiet_of (text0q g j.run At nt ct _ HBB2.out _ ?_); (first | assumption | go_simp)))) | (go_at_call 73; exact Calls.quiet_of (when0k j.when_ _ HB6.out _))); clear hK K)
    refine hq_run (by kernel_rfl) (fun K hK => ?_); go_simp; refine hK _ ?_; clear hK K
    refine hq_run (by kernel_rfl) (fun K hK => ?_); go_simp; refine hK _ ?_; clear hK K
    refine hq_run (by kernel_rfl) (fun K hK => ?_); go_simp; refine hK _ ?_; clear hK K
    refine hq_run (by kernel_rfl) (fun K hK => ?_); go_simp; refine hK _ ?_; clear hK K
    refine hq_run (by kernel_rfl) (fun K hK => ?_); go_simp; (apply Exists.intro; refine ⟨fun _ => ?_, hK _ ?_⟩; (first | (go_at_call 72; (first | (with_reducible refine Calls.quiet_of (text0q g j.name At nt ct _ HB1.out _ ?_); (first | assumption | go_simp)) | (with_reducible refine Calls.quiet_of (text0q g j.run At nt ct _ HBB2.out _ ?_); (first | assumption | go_simp)))) | (go_at_call 73; exact Calls.quiet_of (when0k j.when_ _ HB6.out _))); clear hK K)
    refine hq_run (by kernel_rfl) (fun K hK => ?_); go_simp; refine hK _ ?_; clear hK K
    refine hq_run (by kernel_rfl) (fun K hK => ?_); go_simp; refine hK _ ?_; clear hK K
    refine hq_run (by kernel_rfl) (fun K hK => ?_); go_simp; refine hK _ ?_; clear hK K
    refine hq_run (by kernel_rfl) (fun K hK => ?_); go_simp; refine hK _ ?_; clear hK K
    refine hq_run (by kernel_rfl) (fun K hK => ?_); go_simp; refine hK _ ?_; clear hK K
    refine hq_run (by kernel_rfl) (fun K hK => ?_); go_simp; refine hK _ ?_; clear hK K
    refine hq_run (by kernel_rfl) (fun K hK => ?_); go_simp; refine hK _ ?_; clear hK K
    refine hq_run (by kernel_rfl) (fun K hK => ?_); go_simp; refine hK _ ?_; clear hK K
    refine hq_run (by kernel_rfl) (fun K hK => ?_); refine mapLookQ _ _ _ 92 rfl (some 33) rfl 3 3 .i64 law3J Try.underlying92 Try.underlying3 (fun n => zero3J _) b _ D2 rfl hD2 _ _ rfl (keyOf_int_mk Try.underlying3 hw) _ hat ?_; try simp only [Act.put, List.setIfInBounds_toArray, List.set_cons_zero, List.set_cons_succ, List.getElem_toArray, List.getElem_cons_zero, List.getElem_cons_succ]; refine hK _ ?_; clear hK K
    refine hq_run (by kernel_rfl) (fun K hK => ?_); go_simp; refine hK _ ?_; clear hK K
    refine hq_run (by kernel_rfl) (fun K hK => ?_); go_simp; refine hK _ ?_; clear hK K
    refine hq_run (by kernel_rfl) (fun K hK => ?_); go_simp; refine hK _ ?_; clear hK K
    refine hq_run (by kernel_rfl) (fun K hK => ?_); go_simp; refine hK _ ?_; clear hK K
    refine hq_run (by kernel_rfl) (fun K hK => ?_); go_simp; refine hK _ ?_; clear hK K
    refine hq_run (by kernel_rfl) (fun K hK => ?_); go_simp; refine hK _ ?_; clear hK K
    refine hq_run (by kernel_rfl) (fun K hK => ?_); go_simp; refine hK _ ?_; clear hK K
    refine hq_run (by kernel_rfl) (fun K hK => ?_); go_simp; refine hK _ ?_; clear hK K
    refine hq_run (by kernel_rfl) (fun K hK => ?_); go_simp; refine hK _ ?_; clear hK K
    refine hq_run (by kernel_rfl) (fun K hK => ?_); go_simp; refine hK _ ?_; clear hK K
    refine hq_run (by kernel_rfl) (fun K hK => ?_); go_simp; refine hK _ ?_; clear hK K
    refine hq_run (by kernel_rfl) (fun K hK => ?_); go_simp; refine hK _ ?_; clear hK K
    refine hq_run (by kernel_rfl) (fun K hK => ?_); go_simp; refine hK _ ?_; clear hK K
    refine hq_run (by kernel_rfl) (fun K hK => ?_); go_simp; refine hK _ ?_; clear hK K
    refine hq_run (by kernel_rfl) (fun K hK => ?_); go_simp; refine hK _ ?_; clear hK K
    refine hq_run (by kernel_rfl) (fun K hK => ?_); go_simp; (apply Exists.intro; refine ⟨fun _ => ?_, hK _ ?_⟩; (first | (go_at_call 72; (first | (with_reducible refine Calls.quiet_of (text0q g j.name At nt ct _ HB1.out _ ?_); (first | assumption | go_simp)) | (with_reducible refine Calls.quiet_of (text0q g j.run At nt ct _ HBB2.out _ ?_); (first | assumption | go_simp)))) | (go_at_call 73; exact Calls.quiet_of (when0k j.when_ _ HB6.out _))); clear hK K)
    refine hq_run (by kernel_rfl) (fun K hK => ?_); go_simp; refine hK _ ?_; clear hK K
    refine hq_run (by kernel_rfl) (fun K hK => ?_); go_simp; refine hK _ ?_; clear hK K
    refine hq_skip (by kernel_rfl) ?_; try simp only [Act.put, List.setIfInBounds_toArray, List.set_cons_zero, List.set_cons_succ, List.getElem_toArray, List.getElem_cons_zero, List.getElem_cons_succ]
    refine hq_skip (by kernel_rfl) ?_; try simp only [Act.put, List.setIfInBounds_toArray, List.set_cons_zero, List.set_cons_succ, List.getElem_toArray, List.getElem_cons_zero, List.getElem_cons_succ]
    refine hq_skip (by kernel_rfl) ?_; try simp only [Act.put, List.setIfInBounds_toArray, List.set_cons_zero, List.set_cons_succ, List.getElem_toArray, List.getElem_cons_zero, List.getElem_cons_succ]
    refine hq_run (by kernel_rfl) (fun K hK => ?_); go_simp; refine hK _ ?_; clear hK K
    refine hq_run (by kernel_rfl) (fun K hK => ?_); go_simp; refine hK _ ?_; clear hK K
    refine hq_skip (by kernel_rfl) ?_; try simp only [Act.put, List.setIfInBounds_toArray, List.set_cons_zero, List.set_cons_succ, List.getElem_toArray, List.getElem_cons_zero, List.getElem_cons_succ]
    refine hq_skip (by kernel_rfl) ?_; try simp only [Act.put, List.setIfInBounds_toArray, List.set_cons_zero, List.set_cons_succ, List.getElem_toArray, List.getElem_cons_zero, List.getElem_cons_succ]
    refine hq_skip (by kernel_rfl) ?_; try simp only [Act.put, List.setIfInBounds_toArray, List.set_cons_zero, List.set_cons_succ, List.getElem_toArray, List.getElem_cons_zero, List.getElem_cons_succ]
    refine hq_run (by kernel_rfl) (fun K hK => ?_); go_simp; refine hK _ ?_; clear hK K
    refine hq_nil ?_
    intro _ hw'
    obtain ⟨nq, hw''⟩ := hw'
    subst hw''
    go_wp2_with fail
    go_ret
    exact ⟨by rw [E.out]; rfl, HB2.out.drewN _, HN2.out⟩
  | true =>
  by_cases c5 : 0 ≤ j.weight
  case neg =>
    have d4 : decide (0 ≤ j.weight) = false := decide_eq_false c5
    have D5 := Lib.hid d4
    have d5 : j.weight < 0 := by omega
    have E := Lib.hid (HR.out.symm.trans (show (if fieldsB nt seen j = true then (0 : Int) else 171) = 171 from by rw [HF.out]; rw [D5.out]; simp))
    refine wp_region_hq (by kernel_rfl) (by kernel_rfl) ?_
    refine hq_run (by kernel_rfl) (fun K hK => ?_); go_simp; refine hK _ ?_; clear hK K
    refine hq_run (by kernel_rfl) (fun K hK => ?_); go_simp; refine hK _ ?_; clear hK K
    refine hq_run (by kernel_rfl) (fun K hK => ?_); go_simp; refine hK _ ?_; clear hK K
    refine hq_run (by kernel_rfl) (fun K hK => ?_); go_simp; (apply Exists.intro; refine ⟨fun _ => ?_, hK _ ?_⟩; (first | (go_at_call 72; (first | (with_reducible refine Calls.quiet_of (text0q g j.name At nt ct _ HB1.out _ ?_); (first | assumption | go_simp)) | (with_reducible refine Calls.quiet_of (text0q g j.run At nt ct _ HBB2.out _ ?_); (first | assumption | go_simp)))) | (go_at_call 73; exact Calls.quiet_of (when0k j.when_ _ HB6.out _))); clear hK K)
    refine hq_run (by kernel_rfl) (fun K hK => ?_); go_simp; refine hK _ ?_; clear hK K
    refine hq_run (by kernel_rfl) (fun K hK => ?_); go_simp; refine hK _ ?_; clear hK K
    refine hq_run (by kernel_rfl) (fun K hK => ?_); go_simp; refine hK _ ?_; clear hK K
    refine hq_run (by kernel_rfl) (fun K hK => ?_); go_simp; refine hK _ ?_; clear hK K
    refine hq_run (by kernel_rfl) (fun K hK => ?_); go_simp; (apply Exists.intro; refine ⟨fun _ => ?_, hK _ ?_⟩; (first | (go_at_call 72; (first | (with_reducible refine Calls.quiet_of (text0q g j.name At nt ct _ HB1.out _ ?_); (first | assumption | go_simp)) | (with_reducible refine Calls.quiet_of (text0q g j.run At nt ct _ HBB2.out _ ?_); (first | assumption | go_simp)))) | (go_at_call 73; exact Calls.quiet_of (when0k j.when_ _ HB6.out _))); clear hK K)
    refine hq_run (by kernel_rfl) (fun K hK => ?_); go_simp; refine hK _ ?_; clear hK K
    refine hq_run (by kernel_rfl) (fun K hK => ?_); go_simp; refine hK _ ?_; clear hK K
    refine hq_run (by kernel_rfl) (fun K hK => ?_); go_simp; refine hK _ ?_; clear hK K
    refine hq_run (by kernel_rfl) (fun K hK => ?_); go_simp; refine hK _ ?_; clear hK K
    refine hq_run (by kernel_rfl) (fun K hK => ?_); go_simp; refine hK _ ?_; clear hK K
    refine hq_run (by kernel_rfl) (fun K hK => ?_); go_simp; refine hK _ ?_; clear hK K
    refine hq_run (by kernel_rfl) (fun K hK => ?_); go_simp; refine hK _ ?_; clear hK K
    refine hq_run (by kernel_rfl) (fun K hK => ?_); go_simp; refine hK _ ?_; clear hK K
    refine hq_run (by kernel_rfl) (fun K hK => ?_); refine mapLookQ _ _ _ 92 rfl (some 33) rfl 3 3 .i64 law3J Try.underlying92 Try.underlying3 (fun n => zero3J _) b _ D2 rfl hD2 _ _ rfl (keyOf_int_mk Try.underlying3 hw) _ hat ?_; try simp only [Act.put, List.setIfInBounds_toArray, List.set_cons_zero, List.set_cons_succ, List.getElem_toArray, List.getElem_cons_zero, List.getElem_cons_succ]; refine hK _ ?_; clear hK K
    refine hq_run (by kernel_rfl) (fun K hK => ?_); go_simp; refine hK _ ?_; clear hK K
    refine hq_run (by kernel_rfl) (fun K hK => ?_); go_simp; refine hK _ ?_; clear hK K
    refine hq_run (by kernel_rfl) (fun K hK => ?_); go_simp; refine hK _ ?_; clear hK K
    refine hq_run (by kernel_rfl) (fun K hK => ?_); go_simp; refine hK _ ?_; clear hK K
    refine hq_run (by kernel_rfl) (fun K hK => ?_); go_simp; refine hK _ ?_; clear hK K
    refine hq_run (by kernel_rfl) (fun K hK => ?_); go_simp; refine hK _ ?_; clear hK K
    refine hq_run (by kernel_rfl) (fun K hK => ?_); go_simp; refine hK _ ?_; clear hK K
    refine hq_run (by kernel_rfl) (fun K hK => ?_); go_simp; refine hK _ ?_; clear hK K
    refine hq_run (by kernel_rfl) (fun K hK => ?_); go_simp; refine hK _ ?_; clear hK K
    refine hq_run (by kernel_rfl) (fun K hK => ?_); go_simp; refine hK _ ?_; clear hK K
    refine hq_run (by kernel_rfl) (fun K hK => ?_); go_simp; refine hK _ ?_; clear hK K
    refine hq_run (by kernel_rfl) (fun K hK => ?_); go_simp; refine hK _ ?_; clear hK K
    refine hq_run (by kernel_rfl) (fun K hK => ?_); go_simp; refine hK _ ?_; clear hK K
    refine hq_run (by kernel_rfl) (fun K hK => ?_); go_simp; refine hK _ ?_; clear hK K
    refine hq_run (by kernel_rfl) (fun K hK => ?_); go_simp; refine hK _ ?_; clear hK K
    refine hq_run (by kernel_rfl) (fun K hK => ?_); go_simp; (apply Exists.intro; refine ⟨fun _ => ?_, hK _ ?_⟩; (first | (go_at_call 72; (first | (with_reducible refine Calls.quiet_of (text0q g j.name At nt ct _ HB1.out _ ?_); (first | assumption | go_simp)) | (with_reducible refine Calls.quiet_of (text0q g j.run At nt ct _ HBB2.out _ ?_); (first | assumption | go_simp)))) | (go_at_call 73; exact Calls.quiet_of (when0k j.when_ _ HB6.out _))); clear hK K)
    refine hq_run (by kernel_rfl) (fun K hK => ?_); go_simp; refine hK _ ?_; clear hK K
    refine hq_run (by kernel_rfl) (fun K hK => ?_); go_simp; refine hK _ ?_; clear hK K
    refine hq_run (by kernel_rfl) (fun K hK => ?_); go_simp; refine hK _ ?_; clear hK K
    refine hq_run (by kernel_rfl) (fun K hK => ?_); go_simp; refine hK _ ?_; clear hK K
    refine hq_run (by kernel_rfl) (fun K hK => ?_); go_simp; refine hK _ ?_; clear hK K
    refine hq_run (by kernel_rfl) (fun K hK => ?_); go_simp; refine hK _ ?_; clear hK K
    refine hq_run (by kernel_rfl) (fun K hK => ?_); go_simp; refine hK _ ?_; clear hK K
    refine hq_skip (by kernel_rfl) ?_; try simp only [Act.put, List.setIfInBounds_toArray, List.set_cons_zero, List.set_cons_succ, List.getElem_toArray, List.getElem_cons_zero, List.getElem_cons_succ]
    refine hq_skip (by kernel_rfl) ?_; try simp only [Act.put, List.setIfInBounds_toArray, List.set_cons_zero, List.set_cons_succ, List.getElem_toArray, List.getElem_cons_zero, List.getElem_cons_succ]
    refine hq_skip (by kernel_rfl) ?_; try simp only [Act.put, List.setIfInBounds_toArray, List.set_cons_zero, List.set_cons_succ, List.getElem_toArray, List.getElem_cons_zero, List.getElem_cons_succ]
    refine hq_run (by kernel_rfl) (fun K hK => ?_); go_simp; refine hK _ ?_; clear hK K
    refine hq_nil ?_
    intro _ hw'
    obtain ⟨nq, hw''⟩ := hw'
    subst hw''
    go_wp2_with fail
    go_ret
    exact ⟨by rw [E.out]; rfl, HB2.out.drewN _, HN2.out⟩
  have dc : decide (0 ≤ j.weight) = true := decide_eq_true c5
  by_cases c5 : j.weight ≤ 1000
  case neg =>
    have d4 : decide (j.weight ≤ 1000) = false := decide_eq_false c5
    have D5 := Lib.hid d4
    have d5 : 1000 < j.weight := by omega
    have E := Lib.hid (HR.out.symm.trans (show (if fieldsB nt seen j = true then (0 : Int) else 171) = 171 from by rw [HF.out]; rw [D5.out]; simp))
    refine wp_region_hq (by kernel_rfl) (by kernel_rfl) ?_
    refine hq_run (by kernel_rfl) (fun K hK => ?_); go_simp; refine hK _ ?_; clear hK K
    refine hq_run (by kernel_rfl) (fun K hK => ?_); go_simp; refine hK _ ?_; clear hK K
    refine hq_run (by kernel_rfl) (fun K hK => ?_); go_simp; refine hK _ ?_; clear hK K
    refine hq_run (by kernel_rfl) (fun K hK => ?_); go_simp; (apply Exists.intro; refine ⟨fun _ => ?_, hK _ ?_⟩; (first | (go_at_call 72; (first | (with_reducible refine Calls.quiet_of (text0q g j.name At nt ct _ HB1.out _ ?_); (first | assumption | go_simp)) | (with_reducible refine Calls.quiet_of (text0q g j.run At nt ct _ HBB2.out _ ?_); (first | assumption | go_simp)))) | (go_at_call 73; exact Calls.quiet_of (when0k j.when_ _ HB6.out _))); clear hK K)
    refine hq_run (by kernel_rfl) (fun K hK => ?_); go_simp; refine hK _ ?_; clear hK K
    refine hq_run (by kernel_rfl) (fun K hK => ?_); go_simp; refine hK _ ?_; clear hK K
    refine hq_run (by kernel_rfl) (fun K hK => ?_); go_simp; refine hK _ ?_; clear hK K
    refine hq_run (by kernel_rfl) (fun K hK => ?_); go_simp; refine hK _ ?_; clear hK K
    refine hq_run (by kernel_rfl) (fun K hK => ?_); go_simp; (apply Exists.intro; refine ⟨fun _ => ?_, hK _ ?_⟩; (first | (go_at_call 72; (first | (with_reducible refine Calls.quiet_of (text0q g j.name At nt ct _ HB1.out _ ?_); (first | assumption | go_simp)) | (with_reducible refine Calls.quiet_of (text0q g j.run At nt ct _ HBB2.out _ ?_); (first | assumption | go_simp)))) | (go_at_call 73; exact Calls.quiet_of (when0k j.when_ _ HB6.out _))); clear hK K)
    refine hq_run (by kernel_rfl) (fun K hK => ?_); go_simp; refine hK _ ?_; clear hK K
    refine hq_run (by kernel_rfl) (fun K hK => ?_); go_simp; refine hK _ ?_; clear hK K
    refine hq_run (by kernel_rfl) (fun K hK => ?_); go_simp; refine hK _ ?_; clear hK K
    refine hq_run (by kernel_rfl) (fun K hK => ?_); go_simp; refine hK _ ?_; clear hK K
    refine hq_run (by kernel_rfl) (fun K hK => ?_); go_simp; refine hK _ ?_; clear hK K
    refine hq_run (by kernel_rfl) (fun K hK => ?_); go_simp; refine hK _ ?_; clear hK K
    refine hq_run (by kernel_rfl) (fun K hK => ?_); go_simp; refine hK _ ?_; clear hK K
    refine hq_run (by kernel_rfl) (fun K hK => ?_); go_simp; refine hK _ ?_; clear hK K
    refine hq_run (by kernel_rfl) (fun K hK => ?_); refine mapLookQ _ _ _ 92 rfl (some 33) rfl 3 3 .i64 law3J Try.underlying92 Try.underlying3 (fun n => zero3J _) b _ D2 rfl hD2 _ _ rfl (keyOf_int_mk Try.underlying3 hw) _ hat ?_; try simp only [Act.put, List.setIfInBounds_toArray, List.set_cons_zero, List.set_cons_succ, List.getElem_toArray, List.getElem_cons_zero, List.getElem_cons_succ]; refine hK _ ?_; clear hK K
    refine hq_run (by kernel_rfl) (fun K hK => ?_); go_simp; refine hK _ ?_; clear hK K
    refine hq_run (by kernel_rfl) (fun K hK => ?_); go_simp; refine hK _ ?_; clear hK K
    refine hq_run (by kernel_rfl) (fun K hK => ?_); go_simp; refine hK _ ?_; clear hK K
    refine hq_run (by kernel_rfl) (fun K hK => ?_); go_simp; refine hK _ ?_; clear hK K
    refine hq_run (by kernel_rfl) (fun K hK => ?_); go_simp; refine hK _ ?_; clear hK K
    refine hq_run (by kernel_rfl) (fun K hK => ?_); go_simp; refine hK _ ?_; clear hK K
    refine hq_run (by kernel_rfl) (fun K hK => ?_); go_simp; refine hK _ ?_; clear hK K
    refine hq_run (by kernel_rfl) (fun K hK => ?_); go_simp; refine hK _ ?_; clear hK K
    refine hq_run (by kernel_rfl) (fun K hK => ?_); go_simp; refine hK _ ?_; clear hK K
    refine hq_run (by kernel_rfl) (fun K hK => ?_); go_simp; refine hK _ ?_; clear hK K
    refine hq_run (by kernel_rfl) (fun K hK => ?_); go_simp; refine hK _ ?_; clear hK K
    refine hq_run (by kernel_rfl) (fun K hK => ?_); go_simp; refine hK _ ?_; clear hK K
    refine hq_run (by kernel_rfl) (fun K hK => ?_); go_simp; refine hK _ ?_; clear hK K
    refine hq_run (by kernel_rfl) (fun K hK => ?_); go_simp; refine hK _ ?_; clear hK K
    refine hq_run (by kernel_rfl) (fun K hK => ?_); go_simp; refine hK _ ?_; clear hK K
    refine hq_run (by kernel_rfl) (fun K hK => ?_); go_simp; (apply Exists.intro; refine ⟨fun _ => ?_, hK _ ?_⟩; (first | (go_at_call 72; (first | (with_reducible refine Calls.quiet_of (text0q g j.name At nt ct _ HB1.out _ ?_); (first | assumption | go_simp)) | (with_reducible refine Calls.quiet_of (text0q g j.run At nt ct _ HBB2.out _ ?_); (first | assumption | go_simp)))) | (go_at_call 73; exact Calls.quiet_of (when0k j.when_ _ HB6.out _))); clear hK K)
    refine hq_run (by kernel_rfl) (fun K hK => ?_); go_simp; refine hK _ ?_; clear hK K
    refine hq_run (by kernel_rfl) (fun K hK => ?_); go_simp; refine hK _ ?_; clear hK K
    refine hq_run (by kernel_rfl) (fun K hK => ?_); go_simp; refine hK _ ?_; clear hK K
    refine hq_run (by kernel_rfl) (fun K hK => ?_); go_simp; refine hK _ ?_; clear hK K
    refine hq_run (by kernel_rfl) (fun K hK => ?_); go_simp; refine hK _ ?_; clear hK K
    refine hq_run (by kernel_rfl) (fun K hK => ?_); go_simp; refine hK _ ?_; clear hK K
    refine hq_run (by kernel_rfl) (fun K hK => ?_); go_simp; refine hK _ ?_; clear hK K
    refine hq_run (by kernel_rfl) (fun K hK => ?_); go_simp; refine hK _ ?_; clear hK K
    refine hq_run (by kernel_rfl) (fun K hK => ?_); go_simp; refine hK _ ?_; clear hK K
    refine hq_run (by kernel_rfl) (fun K hK => ?_); go_simp; refine hK _ ?_; clear hK K
    refine hq_run (by kernel_rfl) (fun K hK => ?_); go_simp; refine hK _ ?_; clear hK K
    refine hq_nil ?_
    intro _ hw'
    obtain ⟨nq, hw''⟩ := hw'
    subst hw''
    go_wp2_with fail
    go_ret
    exact ⟨by rw [E.out]; rfl, HB2.out.drewN _, HN2.out⟩
  have dd : decide (j.weight ≤ 1000) = true := decide_eq_true c5
  have E := Lib.hid (HR.out.symm.trans (show (if fieldsB nt seen j = true then (0 : Int) else 171) = 0 from by rw [HF.out]; rw [D4.out, da, db, dc, dd]; rfl))
  refine wp_region_hq (by kernel_rfl) (by kernel_rfl) ?_
  refine hq_run (by kernel_rfl) (fun K hK => ?_); go_simp; refine hK _ ?_; clear hK K
  refine hq_run (by kernel_rfl) (fun K hK => ?_); go_simp; refine hK _ ?_; clear hK K
  refine hq_run (by kernel_rfl) (fun K hK => ?_); go_simp; refine hK _ ?_; clear hK K
  refine hq_run (by kernel_rfl) (fun K hK => ?_); go_simp; (apply Exists.intro; refine ⟨fun _ => ?_, hK _ ?_⟩; (first | (go_at_call 72; (first | (with_reducible refine Calls.quiet_of (text0q g j.name At nt ct _ HB1.out _ ?_); (first | assumption | go_simp)) | (with_reducible refine Calls.quiet_of (text0q g j.run At nt ct _ HBB2.out _ ?_); (first | assumption | go_simp)))) | (go_at_call 73; exact Calls.quiet_of (when0k j.when_ _ HB6.out _))); clear hK K)
  refine hq_run (by kernel_rfl) (fun K hK => ?_); go_simp; refine hK _ ?_; clear hK K
  refine hq_run (by kernel_rfl) (fun K hK => ?_); go_simp; refine hK _ ?_; clear hK K
  refine hq_run (by kernel_rfl) (fun K hK => ?_); go_simp; refine hK _ ?_; clear hK K
  refine hq_run (by kernel_rfl) (fun K hK => ?_); go_simp; refine hK _ ?_; clear hK K
  refine hq_run (by kernel_rfl) (fun K hK => ?_); go_simp; (apply Exists.intro; refine ⟨fun _ => ?_, hK _ ?_⟩; (first | (go_at_call 72; (first | (with_reducible refine Calls.quiet_of (text0q g j.name At nt ct _ HB1.out _ ?_); (first | assumption | go_simp)) | (with_reducible refine Calls.quiet_of (text0q g j.run At nt ct _ HBB2.out _ ?_); (first | assumption | go_simp)))) | (go_at_call 73; exact Calls.quiet_of (when0k j.when_ _ HB6.out _))); clear hK K)
  refine hq_run (by kernel_rfl) (fun K hK => ?_); go_simp; refine hK _ ?_; clear hK K
  refine hq_run (by kernel_rfl) (fun K hK => ?_); go_simp; refine hK _ ?_; clear hK K
  refine hq_run (by kernel_rfl) (fun K hK => ?_); go_simp; refine hK _ ?_; clear hK K
  refine hq_run (by kernel_rfl) (fun K hK => ?_); go_simp; refine hK _ ?_; clear hK K
  refine hq_run (by kernel_rfl) (fun K hK => ?_); go_simp; refine hK _ ?_; clear hK K
  refine hq_run (by kernel_rfl) (fun K hK => ?_); go_simp; refine hK _ ?_; clear hK K
  refine hq_run (by kernel_rfl) (fun K hK => ?_); go_simp; refine hK _ ?_; clear hK K
  refine hq_run (by kernel_rfl) (fun K hK => ?_); go_simp; refine hK _ ?_; clear hK K
  refine hq_run (by kernel_rfl) (fun K hK => ?_); refine mapLookQ _ _ _ 92 rfl (some 33) rfl 3 3 .i64 law3J Try.underlying92 Try.underlying3 (fun n => zero3J _) b _ D2 rfl hD2 _ _ rfl (keyOf_int_mk Try.underlying3 hw) _ hat ?_; try simp only [Act.put, List.setIfInBounds_toArray, List.set_cons_zero, List.set_cons_succ, List.getElem_toArray, List.getElem_cons_zero, List.getElem_cons_succ]; refine hK _ ?_; clear hK K
  refine hq_run (by kernel_rfl) (fun K hK => ?_); go_simp; refine hK _ ?_; clear hK K
  refine hq_run (by kernel_rfl) (fun K hK => ?_); go_simp; refine hK _ ?_; clear hK K
  refine hq_run (by kernel_rfl) (fun K hK => ?_); go_simp; refine hK _ ?_; clear hK K
  refine hq_run (by kernel_rfl) (fun K hK => ?_); go_simp; refine hK _ ?_; clear hK K
  refine hq_run (by kernel_rfl) (fun K hK => ?_); go_simp; refine hK _ ?_; clear hK K
  refine hq_run (by kernel_rfl) (fun K hK => ?_); go_simp; refine hK _ ?_; clear hK K
  refine hq_run (by kernel_rfl) (fun K hK => ?_); go_simp; refine hK _ ?_; clear hK K
  refine hq_run (by kernel_rfl) (fun K hK => ?_); go_simp; refine hK _ ?_; clear hK K
  refine hq_run (by kernel_rfl) (fun K hK => ?_); go_simp; refine hK _ ?_; clear hK K
  refine hq_run (by kernel_rfl) (fun K hK => ?_); go_simp; refine hK _ ?_; clear hK K
  refine hq_run (by kernel_rfl) (fun K hK => ?_); go_simp; refine hK _ ?_; clear hK K
  refine hq_run (by kernel_rfl) (fun K hK => ?_); go_simp; refine hK _ ?_; clear hK K
  refine hq_run (by kernel_rfl) (fun K hK => ?_); go_simp; refine hK _ ?_; clear hK K
  refine hq_run (by kernel_rfl) (fun K hK => ?_); go_simp; refine hK _ ?_; clear hK K
  refine hq_run (by kernel_rfl) (fun K hK => ?_); go_simp; refine hK _ ?_; clear hK K
  refine hq_run (by kernel_rfl) (fun K hK => ?_); go_simp; (apply Exists.intro; refine ⟨fun _ => ?_, hK _ ?_⟩; (first | (go_at_call 72; (first | (with_reducible refine Calls.quiet_of (text0q g j.name At nt ct _ HB1.out _ ?_); (first | assumption | go_simp)) | (with_reducible refine Calls.quiet_of (text0q g j.run At nt ct _ HBB2.out _ ?_); (first | assumption | go_simp)))) | (go_at_call 73; exact Calls.quiet_of (when0k j.when_ _ HB6.out _))); clear hK K)
  refine hq_run (by kernel_rfl) (fun K hK => ?_); go_simp; refine hK _ ?_; clear hK K
  refine hq_run (by kernel_rfl) (fun K hK => ?_); go_simp; refine hK _ ?_; clear hK K
  refine hq_run (by kernel_rfl) (fun K hK => ?_); go_simp; refine hK _ ?_; clear hK K
  refine hq_run (by kernel_rfl) (fun K hK => ?_); go_simp; refine hK _ ?_; clear hK K
  refine hq_run (by kernel_rfl) (fun K hK => ?_); go_simp; refine hK _ ?_; clear hK K
  refine hq_run (by kernel_rfl) (fun K hK => ?_); go_simp; refine hK _ ?_; clear hK K
  refine hq_run (by kernel_rfl) (fun K hK => ?_); go_simp; refine hK _ ?_; clear hK K
  refine hq_run (by kernel_rfl) (fun K hK => ?_); go_simp; refine hK _ ?_; clear hK K
  refine hq_run (by kernel_rfl) (fun K hK => ?_); go_simp; refine hK _ ?_; clear hK K
  refine hq_run (by kernel_rfl) (fun K hK => ?_); go_simp; refine hK _ ?_; clear hK K
  refine hq_run (by kernel_rfl) (fun K hK => ?_); go_simp; refine hK _ ?_; clear hK K
  refine hq_nil ?_
  intro _ hw'
  obtain ⟨nq, hw''⟩ := hw'
  subst hw''
  go_wp2_with fail
  go_ret
  exact ⟨by rw [E.out]; rfl, HB2.out.drewN _, HN2.out⟩
end Go.Proofs.Ytoaopjbgaehpfaa.G
