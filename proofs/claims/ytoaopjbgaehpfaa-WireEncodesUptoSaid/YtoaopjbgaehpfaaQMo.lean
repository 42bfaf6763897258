/- CopyPlan: a plan copied into new memory. -/
import Derived.Test.YtoaopjbgaehpfaaQMl
namespace Go.Proofs.Ytoaopjbgaehpfaa.G
open Go.RowKit
attribute [local simp, local go_sem] alloc_drewN setCell_drewN
set_option linter.unusedVariables false
set_option linter.unusedSimpArgs false
set_option maxRecDepth 100000
/-- A plan's room: what can be copied. -/
structure PlanRoom (ts : List ByteArray) (js : List JobP) : Prop where
  texts : ts.length ≤ 1073741824
  jobs : js.length ≤ 1073741824
  each : ∀ j ∈ js, j.rules.length ≤ 1073741824 ∧ j.vars.length ≤ 1073741824 ∧ j.preds.length ≤ 1073741824 ∧ ∀ r ∈ j.rules, r.1.length ≤ 1073741824
theorem strsIn_lies {w : World} {A : Option Addr} {l : List ByteArray} (h : StrsIn w A l) : sgE.Lies w A l := lies1 (fun b => .string b) (fun _ => rfl) h
theorem intsIn_lies {w : World} {A : Option Addr} {l : List Int} (h : IntsIn w A l) : inE.Lies w A l := lies1 (fun b => .int .i64 b) (fun _ => rfl) h
theorem pairsIn_lies {w : World} {A : Option Addr} {l : List (Int × Int)} (h : PairsIn w A l) : pvE.Lies w A l := lies2 (fun b => .int .i64 b.1) (fun b => .int .i64 b.2) (fun _ => rfl) h
theorem stepsIn_lies {w : World} {A : Option Addr} {l : List (Int × Int)} (h : PairsIn w A l) : psE.Lies w A l := lies2 (fun b => .int .i64 b.1) (fun b => .int .i64 b.2) (fun _ => rfl) h
/-- Blocks but those of some types stay. -/
def HeldS (bad : List TypeId) (W W' : World) : Prop := ∀ (k : Nat) (cs : Array Value) (t : TypeId), W.heap[k]? = some (Obj.cells cs t (0, 0)) → t ∉ bad → W'.heap[k]? = W.heap[k]?
theorem HeldS.trans {bad : List TypeId} {W W' W'' : World} (h : HeldS bad W W') (h' : HeldS bad W' W'') : HeldS bad W W'' := fun k cs t hc hb => by
  have h1 := h k cs t hc hb
  exact (h' k cs t (h1.trans hc) hb).trans h1
theorem heldS_new {bad : List TypeId} {W W' : World} (hb : But No W W') : HeldS bad W W' := fun k cs t hc _ => hb.block k (lt_of_block hc) (fun c => c)
theorem heldS_grow {bad : List TypeId} {W W' : World} {r : Option Nat} (hg : W.grownBy W' r) (ht : ∀ k, r = some k → ∃ cs t, W.heap[k]? = some (Obj.cells cs t (0, 0)) ∧ t ∈ bad) : HeldS bad W W' := fun k cs t hc hn =>
  hg.block k (lt_of_block hc) (fun e => by
    obtain ⟨cs', t', h1, h2⟩ := ht k e.symm
    rw [hc] at h1
    injection h1 with h1
    injection h1 with _ h1
    exact hn (h1 ▸ h2))
theorem heldS_set {bad : List TypeId} {W : World} {p : Addr} {cs : Array Value} {t : TypeId} (hp : W.heap[p.block]? = some (Obj.cells cs t (0, 0))) (ht : t ∈ bad) (u : Value) : HeldS bad W (W.setCell p u) := fun k cs' t' hc hn =>
  Below.heap_setCell _ _ _ _ (fun e => by
    rw [e, hp] at hc
    injection hc with hc
    injection hc with _ hc
    exact hn (hc ▸ ht))
theorem own_held {P : Program} {T Ts : TypeId} {α : Type} {E : El P T Ts α} {bad : List TypeId} {W W' : World} {base : Nat} {v : Value} {l : List α} (h : E.Own W base v l) (hk : HeldS bad W W') (hT : T ∉ bad) : E.Own W' base v l :=
  own_at h fun k hv => by
    obtain ⟨_, _, cs, hc⟩ := El.typed h k hv
    exact hk k cs _ hc hT
theorem RulesDone.keepS {bad : List TypeId} {base : Nat} {ls : List (List (Int × Int) × Int)} {lv : List ((Option Addr × Nat × Nat) × Int)} {W W' : World} (h : RulesDone base ls lv W) (hk : HeldS bad W W') (hT : 79 ∉ bad) : RulesDone base ls lv W' := All2.imp (fun a b hh => ⟨own_held hh.1 hk hT, hh.2⟩) h
theorem JobLies.keepS {bad : List TypeId} {base : Nat} {x : JobP} {x' : JobV} {W W' : World} (h : JobLies base x x' W) (hk : HeldS bad W W') (h1 : 79 ∉ bad) (h2 : 58 ∉ bad) (h3 : 81 ∉ bad) (h4 : 3 ∉ bad) : JobLies base x x' W' := by
  obtain ⟨lv, i1, i2, i3⟩ := h.rules
  exact ⟨h.one, h.allow, ⟨lv, own_held i1 hk h2, i2, i3.keepS hk h1⟩, own_held h.vars hk h3, own_held h.preds hk h4⟩
theorem JobLies.new {base : Nat} {x : JobP} {x' : JobV} {W W' : World} (h : JobLies base x x' W) (hb : But No W W') : JobLies base x x' W' :=
  h.keepS (heldS_new (bad := []) hb) (by simp) (by simp) (by simp) (by simp)
theorem grow_block {W W' : World} {r : Option Nat} {T t : TypeId} {k : Nat} {cs : Array Value} (hg : W.grownBy W' r) (ht : ∀ k, r = some k → ∃ cs, W.heap[k]? = some (Obj.cells cs T (0, 0))) (hk : W.heap[k]? = some (Obj.cells cs t (0, 0))) (hn : t ≠ T) : W'.heap[k]? = some (Obj.cells cs t (0, 0)) :=
  (hg.block k (lt_of_block hk) (fun e => by
    obtain ⟨cs', h1⟩ := ht k e.symm
    rw [hk] at h1
    injection h1 with h1
    injection h1 with _ h1
    exact hn h1)).trans hk
theorem typed_own {P : Program} {T Ts : TypeId} {α : Type} {E : El P T Ts α} {W : World} {base : Nat} {v : Value} {l : List α} (h : E.Own W base v l) : ∀ k, v.ownBlock = some k → ∃ cs, W.heap[k]? = some (Obj.cells cs T (0, 0)) := fun k e => (El.typed h k e).2.2
/-- The copy, between two jobs. -/
structure CpSt (w : World) (g3 : Nat) (At : Option Addr) (nt ct : Nat) (Aj : Option Addr) (nj cj : Nat) (vts : Value) (ts : List ByteArray) (js : List JobP) (i : Nat) (wr : World) : Prop where
  but : But No w wr
  b1 : wr.heap[w.heap.size]? = some (.cells #[.slice At nt ct, .slice Aj nj cj] 25 (0, 0))
  b2 : wr.heap[w.heap.size + 1]? = some (.cells #[.slice none 0 0, .slice none 0 0] 25 (0, 0))
  lo : w.heap.size + 1 < g3
  texts : sgE.Own wr w.heap.size vts ts
  rows : ∃ vj lv, wr.heap[g3]? = some (.cells #[vts, vj] 25 (0, 0)) ∧ jbE.Own wr w.heap.size vj lv ∧ lv.length = i ∧ JobsDone w.heap.size (js.take i) lv wr
theorem CpSt.new {w : World} {g3 : Nat} {At : Option Addr} {nt ct : Nat} {Aj : Option Addr} {nj cj : Nat} {vts : Value} {ts : List ByteArray} {js : List JobP} {i : Nat} {wr W : World} (h : CpSt w g3 At nt ct Aj nj cj vts ts js i wr) (hb : But No wr W) : CpSt w g3 At nt ct Aj nj cj vts ts js i W := by
  obtain ⟨vj, lv, h1, h2, h3, h4⟩ := h.rows
  have bl := fun k o (hk : wr.heap[k]? = some o) => (hb.block k (lt_of_block hk) (fun c => c)).trans hk
  exact ⟨h.but.trans hb, bl _ _ h.b1, bl _ _ h.b2, h.lo, h.texts.new hb, vj, lv, bl _ _ h1, h2.new hb, h3, All2.imp (fun a b hh => hh.new hb) h4⟩
def jobCs (j : JobP) (vr vv vp : Value) : Array Value := #[.int .i64 j.one.name, .int .i64 j.one.run, .int .i64 j.one.stage, .int .i64 j.one.when_, .bool j.allow, .int .i64 j.one.weight, vr, vv, vp]
/-- A job's copy, between two rules (its box is the first block behind wr). -/
structure RlSt (wr : World) (j : JobP) (vv vp : Value) (k : Nat) (ws : World) : Prop where
  but : But No wr ws
  box : ∃ vr lr, ws.heap[wr.heap.size]? = some (.cells (jobCs j vr vv vp) 52 (0, 0)) ∧ rlE.Own ws wr.heap.size vr lr ∧ lr.length = k ∧ RulesDone wr.heap.size (j.rules.take k) lr ws
  vars : pvE.Own ws wr.heap.size vv j.vars
  preds : inE.Own ws wr.heap.size vp j.preds
def OutAt (w : World) (g3 : Nat) (At : Option Addr) (nt ct : Nat) (Aj : Option Addr) (nj cj : Nat) (vts : Value) (ts : List ByteArray) (js : List JobP) (gk : Nat) (v : Value) (wr : World) : Prop :=
  ∃ i : Nat, gk = nj - i ∧ i ≤ nj ∧ v = .int .i64 (i : Int) ∧ CpSt w g3 At nt ct Aj nj cj vts ts js i wr
def InRAt (wr : World) (j : JobP) (vv vp : Value) (gk : Nat) (v : Value) (ws : World) : Prop :=
  ∃ k : Nat, gk = j.rules.length - k ∧ k ≤ j.rules.length ∧ v = .int .i64 (k : Int) ∧ RlSt wr j vv vp k ws
def CopyPost (w : World) (ts : List ByteArray) (js : List JobP) (e : Ending) (w' : World) : Prop :=
  But No w w' ∧ ∃ At ct Aj cj, e = .returned (.agg #[.slice At ts.length ct, .slice Aj js.length cj]) ∧ PlanLies w.heap.size At ts.length ct Aj js.length cj ts js w'
set_option maxHeartbeats 8000000 in
theorem copyPlan0 {w : World} {At Aj : Option Addr} {ts : List ByteArray} {js : List JobP} (ct cj : Nat) (h : PlanIn w At ts Aj js) (hz : PlanRoom ts js) :
    Calls Try.prog 11 #[.agg #[.slice At ts.length ct, .slice Aj js.length cj]] w (CopyPost w ts js) := by
  have H := Lib.hid h
  have HZ := Lib.hid hz
  have hz1 := hz.texts
  have hz2 := hz.jobs
  clear h hz
  obtain ⟨nt, hnt⟩ : ∃ n, ts.length = n := ⟨_, rfl⟩
  obtain ⟨nj, hnj⟩ : ∃ n, js.length = n := ⟨_, rfl⟩
  have HNT := Lib.hid hnt
  have HNJ := Lib.hid hnj
  have HC := Lib.hid (fun W (hW : But No w W) => copyTexts0 At ct ts W (strsIn_lies (H.out.but hW).texts) (by omega))
  unfold CopyPost
  rw [hnt, hnj]
  rw [hnt] at hz1 HC
  rw [hnj] at hz2
  clear hnt hnj
  go_enter Try.func11, Try.ntmps11
  go_wp2_with fail
  refine (HC.out _ (((But.refl No w).alloc _).alloc _)).mono ?_
  rintro e w1 ⟨vts, rfl, hown, hb1⟩
  obtain ⟨Av, cv, hv⟩ := hown.slice
  rw [HNT.out] at hv
  subst hv
  have hb2 := ((((But.refl No w).alloc (.cells #[.slice At nt ct, .slice Aj nj cj] 25)).alloc (.cells #[.slice none 0 0, .slice none 0 0] 25)).trans hb1)
  have hsz1 : w.heap.size + 2 ≤ w1.heap.size := by have := hb1.size; simp at this; omega
  have hS := Lib.hid (show CpSt w w1.heap.size At nt ct Aj nj cj (.slice Av nt cv) ts js 0 (w1.alloc (.cells #[.slice Av nt cv, .slice none 0 0] 25)) from
    ⟨hb2.alloc _, blkold ((hb1.block w.heap.size (by simp; omega) (fun c => c)).trans (blkold (heap_alloc_new w _) _)) _, blkold ((hb1.block (w.heap.size + 1) (by simp) (fun c => c)).trans (blkb w _ _)) _, by omega, (own_mono hown (by simp; omega)).alloc _, .slice none 0 0, [], heap_alloc_new w1 _, El.own_nil _ _, rfl, trivial⟩)
  clear hown hb1 hb2 HC
  go_wp2_with fail
  generalize w1.alloc (.cells #[.slice Av nt cv, .slice none 0 0] 25) = W2 at *
  obtain ⟨g3, hg3⟩ : ∃ g, w1.heap.size = g := ⟨_, rfl⟩
  rw [hg3] at hS hsz1 ⊢
  clear hg3
  go_loopg [4] nj (fun gk v wr => OutAt w g3 At nt ct Aj nj cj (.slice Av nt cv) ts js gk v wr)
  case atStart => exact ⟨0, rfl, Nat.zero_le _, rfl, hS.out⟩
  case round =>
    obtain ⟨wo, rfl⟩ : ∃ x, x = wr := ⟨_, rfl⟩
    obtain ⟨i, hgk, hi, rfl, hst⟩ := hrel
    have HGK := Lib.hid hgk
    have HST := Lib.hid hst
    have p0 : wo.cell? ⟨w.heap.size, 0, none⟩ = some (.slice At nt ct) := blkcell hst.b1 0 (by simp)
    have p1 : wo.cell? ⟨w.heap.size, 1, none⟩ = some (.slice Aj nj cj) := blkcell hst.b1 1 (by simp)
    clear hgk hst hS
    by_cases hlt : i < nj
    · have hlt' : (i : Int) < (nj : Int) := by omega
      have dl : decide ((i : Int) < (nj : Int)) = true := decide_eq_true hlt'
      have hij : i < js.length := by rw [HNJ.out]; exact hlt
      obtain ⟨ad, hA, Ar, Avv, Ap, cr, cvv, cpp, hJ⟩ := (H.out.but HST.out.but).jobs i hij
      subst hA
      obtain ⟨j, hj⟩ : ∃ j, js[i] = j := ⟨_, rfl⟩
      have hjm : j ∈ js := hj ▸ List.getElem_mem hij
      obtain ⟨z1, z2, z3, z4⟩ := HZ.out.each j hjm
      rw [hj] at hJ
      have HJ := Lib.hid hJ
      have HJE := Lib.hid hj
      have c0 := hJ.c0
      have c1 := hJ.c1
      have c2 := hJ.c2
      have c3 := hJ.c3
      have c4 := hJ.c4
      have c5 := hJ.c5
      have c6 := hJ.c6
      have c7 := hJ.c7
      obtain ⟨m, hm⟩ : ∃ m, j.rules.length = m := ⟨_, rfl⟩
      have HM := Lib.hid hm
      have hmz : m ≤ 1073741824 := by omega
      rw [hm] at c6
      have c8 := hJ.c8
      clear hJ hj hjm hm
      go_wp2_with fail
      refine (copyVars0 Avv cvv j.vars _ (pairsIn_lies (((But.refl No wo).alloc (.cells (jobCs j (.slice Ar m cr) (.slice Avv j.vars.length cvv) (.slice Ap j.preds.length cpp)) 52)) |> fun hb => HJ.out.vars.but hb)) (by omega)).mono ?_
      rintro e w3 ⟨vv, rfl, hov, hb3⟩
      obtain ⟨A1, k1, hv1⟩ := hov.slice
      obtain ⟨n1, hn1⟩ : ∃ n, j.vars.length = n := ⟨_, rfl⟩
      rw [hn1] at hv1
      subst hv1
      have bx3 := (hb3.block wo.heap.size (by simp) (fun c => c)).trans (heap_alloc_new wo _)
      have f3 : ∀ i, w3.frozen? ⟨wo.heap.size, i, none⟩ = false := blkfree bx3
      have c37 : w3.cell? ⟨wo.heap.size, 7, none⟩ = some (.slice Avv j.vars.length cvv) := blkcell bx3 7 (by simp [jobCs])
      have c38 : w3.cell? ⟨wo.heap.size, 8, none⟩ = some (.slice Ap j.preds.length cpp) := blkcell bx3 8 (by simp [jobCs])
      have HOV := Lib.hid hov
      have hB3 := ((But.refl No wo).alloc _).trans hb3
      have HB3 := Lib.hid hB3
      have BX3 := Lib.hid bx3
      have hs3 : wo.heap.size < w3.heap.size := lt_of_block bx3
      have hw1 : ¬ wo.heap.size = w.heap.size := by have := lt_of_block HST.out.b1; omega
      have hw2 : ¬ w.heap.size = wo.heap.size := by omega
      clear hov hb3 bx3 hB3 c0 c1 c2 c3 c4 c5 c6 c7 c8
      go_wp2_with fail
      refine (copyInts0 Ap cpp j.preds _ (intsIn_lies (HJ.out.preds.but (HB3.out.setCell (p := ⟨wo.heap.size, 7, none⟩) (.inr (Nat.le_refl _)) (.slice A1 n1 k1)))) (by omega)).mono ?_
      rintro e w4 ⟨vp, rfl, hop, hb4⟩
      obtain ⟨A2, k2, hv2⟩ := hop.slice
      obtain ⟨n2, hn2⟩ : ∃ n, j.preds.length = n := ⟨_, rfl⟩
      rw [hn2] at hv2
      subst hv2
      have bx4 := (hb4.block wo.heap.size (by simp; omega) (fun c => c)).trans (blkset BX3.out 7 (.slice A1 n1 k1))
      simp only [jobCs, List.setIfInBounds_toArray, List.set_cons_zero, List.set_cons_succ] at bx4
      have f4 : ∀ i, w4.frozen? ⟨wo.heap.size, i, none⟩ = false := blkfree bx4
      have c46 : w4.cell? ⟨wo.heap.size, 6, none⟩ = some (.slice Ar m cr) := blkcell bx4 6 (by simp)
      have c48 : w4.cell? ⟨wo.heap.size, 8, none⟩ = some (.slice Ap j.preds.length cpp) := blkcell bx4 8 (by simp)
      have bx5 := blkset (blkset bx4 8 (.slice A2 n2 k2)) 6 (.slice none 0 0)
      simp only [List.setIfInBounds_toArray, List.set_cons_zero, List.set_cons_succ] at bx5
      have hB4 := (HB3.out.setCell (p := ⟨wo.heap.size, 7, none⟩) (.inr (Nat.le_refl _)) (.slice A1 n1 k1)).trans hb4
      have hB5 := (hB4.setCell (p := ⟨wo.heap.size, 8, none⟩) (.inr (Nat.le_refl _)) (.slice A2 n2 k2)).setCell (p := ⟨wo.heap.size, 6, none⟩) (.inr (Nat.le_refl _)) (.slice none 0 0)
      have HR := Lib.hid (show RlSt wo j (.slice A1 n1 k1) (.slice A2 n2 k2) 0 ((w4.setCell ⟨wo.heap.size, 8, none⟩ (.slice A2 n2 k2)).setCell ⟨wo.heap.size, 6, none⟩ (.slice none 0 0)) from
        ⟨hB5, ⟨.slice none 0 0, [], bx5, El.own_nil _ _, rfl, trivial⟩, own_mono ((((HOV.out.set (by simp) _).new hb4).set (by simp) _).set (by simp) _) (by simp), own_mono ((hop.set (by simp; omega) _).set (by simp; omega) _) (by simp; omega)⟩)
      clear hop hb4 bx4 bx5 hB4 hB5 HOV HB3 BX3 f3 c37 c38
      go_wp2_with fail
      generalize (w4.setCell ⟨wo.heap.size, 8, none⟩ (.slice A2 n2 k2)).setCell ⟨wo.heap.size, 6, none⟩ (.slice none 0 0) = W5 at *
      go_loopg [6] m (fun gk v ws => InRAt wo j (.slice A1 n1 k1) (.slice A2 n2 k2) gk v ws)
      case atStart => exact ⟨0, by rw [HM.out]; rfl, Nat.zero_le _, rfl, HR.out⟩
      case round =>
        obtain ⟨k, hgk, hk, rfl, hrs⟩ := hrel
        have HGK2 := Lib.hid hgk
        have HRS := Lib.hid hrs
        have hs2 := hrs.but.size
        have hCP := HST.out.new hrs.but
        have p0' : wr.cell? ⟨w.heap.size, 0, none⟩ = some (.slice At nt ct) := blkcell hCP.b1 0 (by simp)
        have p1' : wr.cell? ⟨w.heap.size, 1, none⟩ = some (.slice (some ad) nj cj) := blkcell hCP.b1 1 (by simp)
        have hJ2 : wr.cell? ⟨(ad.add (i * 9)).block, (ad.add (i * 9)).off + 6, none⟩ = some (.slice Ar j.rules.length cr) := hrs.but.cell_some HJ.out.c6 (fun c => c)
        obtain ⟨vr, lr, bx, hrl, hlr, hrd⟩ := hrs.box
        obtain ⟨A3, k3, hv3⟩ := hrl.slice
        subst hv3
        have c56 : wr.cell? ⟨wo.heap.size, 6, none⟩ = some (.slice A3 lr.length k3) := blkcell bx 6 (by simp [jobCs])
        have BX := Lib.hid bx
        have HRL := Lib.hid hrl
        have HRD := Lib.hid hrd
        have HLR := Lib.hid hlr
        rw [HM.out] at hk hJ2
        clear hgk hrs hCP bx hrl hrd hlr
        by_cases hkt : k < m
        · have hkt' : (k : Int) < (m : Int) := by omega
          have dk : decide ((k : Int) < (m : Int)) = true := decide_eq_true hkt'
          have hkj : k < j.rules.length := by rw [HM.out]; exact hkt
          obtain ⟨ad2, hA2, Ac, cc, r0, r1, hps⟩ := (HJ.out.rules.but HRS.out.but) k hkj
          subst hA2
          obtain ⟨code, hcode⟩ : ∃ x, j.rules[k].1 = x := ⟨_, rfl⟩
          obtain ⟨wh, hwh⟩ : ∃ x, j.rules[k].2 = x := ⟨_, rfl⟩
          have zc : code.length ≤ 1073741824 := hcode ▸ z4 _ (List.getElem_mem hkj)
          rw [hcode] at r0 hps
          rw [hwh] at r1
          have HPS := Lib.hid hps
          have HRU := Lib.hid (show j.rules[k] = (code, wh) from by rw [← hcode, ← hwh])
          clear hps hcode hwh
          go_wp2_with fail
          have hwo : wo.heap.size < wr.heap.size := lt_of_block BX.out
          have hwne : ¬ wr.heap.size = wo.heap.size := by omega
          have hwne' : ¬ wo.heap.size = wr.heap.size := by omega
          have a0 := ((But.refl No wr).alloc (.cells #[.slice Ac code.length cc, .int .i64 wh] 58)).cell_some c56 (fun c => c)
          have a1 : (wr.alloc (.cells #[.slice Ac code.length cc, .int .i64 wh] 58)).cell? ⟨wr.heap.size, 0, none⟩ = some (.slice Ac code.length cc) := blkcell (heap_alloc_new wr _) 0 (by simp)
          have a2 : (wr.alloc (.cells #[.slice Ac code.length cc, .int .i64 wh] 58)).cell? ⟨wr.heap.size, 1, none⟩ = some (.int .i64 wh) := blkcell (heap_alloc_new wr _) 1 (by simp)
          have BX7 := Lib.hid (heap_alloc_new wr (.cells #[.slice Ac code.length cc, .int .i64 wh] 58))
          have hBa := Lib.hid ((But.refl No wr).alloc (.cells #[.slice Ac code.length cc, .int .i64 wh] 58))
          have hsa : (wr.alloc (.cells #[.slice Ac code.length cc, .int .i64 wh] 58)).heap.size = wr.heap.size + 1 := by simp
          generalize wr.alloc (.cells #[.slice Ac code.length cc, .int .i64 wh] 58) = Wa at *
          refine wp_region_held_drew (S := fun w' => w'.cell? ⟨wr.heap.size, 0, none⟩ = some (.slice Ac code.length cc) ∧ w'.cell? ⟨wr.heap.size, 1, none⟩ = some (.int .i64 wh)) (by kernel_rfl) ⟨a1, a2⟩ (fun hS => ?_)
          refine takeE 0 (some 53) rfl rfl (fun w e1 => by obtain ⟨e1, e2⟩ := e1; go_simp <;> (with_reducible rfl)) hS ?_
          simp only [putS]
          refine takeE 2 (some 55) rfl rfl (fun w e1 => by obtain ⟨e1, e2⟩ := e1; go_simp <;> (with_reducible rfl)) hS ?_
          simp only [putS]
          refine takeE 3 (some 56) rfl rfl (fun w e1 => by obtain ⟨e1, e2⟩ := e1; go_simp <;> (with_reducible rfl)) hS ?_
          simp only [putS]
          refine takeE 5 (some 58) rfl rfl (fun w e1 => by obtain ⟨e1, e2⟩ := e1; go_simp <;> (with_reducible rfl)) hS ?_
          simp only [putS]
          refine takeE 6 (some 59) rfl rfl (fun w e1 => by obtain ⟨e1, e2⟩ := e1; go_simp <;> (with_reducible rfl)) hS ?_
          simp only [putS]
          refine wpAnyH_ready (rs := [1, 4]) (by kernel_rfl) (by simp) (AllReadyH.cons rfl (fun K1 hK1 => ?_) (AllReadyH.cons rfl (fun K4 hK4 => ?_) AllReadyH.nil))
          · skip
            rw [if_pos (by kernel_rfl)]
            go_simp
            refine hK1.out _ _ ⟨a1, a2⟩ (fun hS => ?_)
            try simp only [putS, List.getElem_toArray, List.getElem_cons_zero, List.getElem_cons_succ]
            refine wpAnyH_ready (rs := [4]) (by kernel_rfl) (by simp) (AllReadyH.cons rfl (fun K4 hK4 => ?_) AllReadyH.nil)
            rw [if_pos (by kernel_rfl)]
            go_simp
            go_at_call 28
            refine (copySteps0 Ac cc code _ (stepsIn_lies ((HPS.out.but hBa.out).but ((But.refl No Wa).drew))) (by omega)).mono ?_
            rintro e w5 ⟨vc, rfl, hoc, hb5⟩
            obtain ⟨A4, k4, hv4⟩ := hoc.slice
            subst hv4
            have hb5' : But No Wa w5 := ((But.refl No Wa).drew).trans hb5
            have HB5 := Lib.hid (hBa.out.trans hb5')
            have HOC := Lib.hid (show psE.Own w5 wo.heap.size (.slice A4 code.length k4) code from own_mono hoc (by show wo.heap.size ≤ Wa.heap.size; omega))
            have s0 := hb5'.cell_some a0 (fun c => c)
            have b7 := (hb5'.block wr.heap.size (by omega) (fun c => c)).trans BX7.out
            have s1 : w5.cell? ⟨wr.heap.size, 0, none⟩ = some (.slice Ac code.length cc) := blkcell b7 0 (by simp)
            have s2 : w5.cell? ⟨wr.heap.size, 1, none⟩ = some (.int .i64 wh) := blkcell b7 1 (by simp)
            have B7 := Lib.hid b7
            have hs5 := hb5'.size
            clear hb5 hb5' hoc b7
            simp only []
            refine hK4.out _ _ ⟨s1, s2⟩ (fun hS => ?_)
            try simp only [putS, List.getElem_toArray, List.getElem_cons_zero, List.getElem_cons_succ]
            refine takeE 7 (some 60) rfl rfl (fun w e1 => by obtain ⟨e1, e2⟩ := e1; go_simp <;> (with_reducible rfl)) hS ?_
            simp only [putS]
            refine wpAnyH_ready (rs := [8]) (by kernel_rfl) (by simp) (AllReadyH.cons rfl (fun K8 hK8 => ?_) AllReadyH.nil)
            rw [if_pos (by kernel_rfl)]
            go_simp
            have hAs : But No w5 (w5.alloc (.cells #[.slice A4 code.length k4, .int .i64 wh] 58)) := (But.refl No w5).alloc _
            have s0b := hAs.cell_some s0 (fun c => c)
            refine hK8.out _ _ ⟨hAs.cell_some s1 (fun c => c), hAs.cell_some s2 (fun c => c)⟩ (fun hS => ?_)
            try simp only [putS, List.getElem_toArray, List.getElem_cons_zero, List.getElem_cons_succ]
            refine wpAnyH_ready (rs := [9]) (by kernel_rfl) (by simp) (AllReadyH.cons rfl (fun K9 hK9 => ?_) AllReadyH.nil)
            refine rlE.step1 rfl _ _ rfl rfl wo.heap.size (.slice A3 lr.length k3) lr rfl ((HRL.out.new HB5.out).alloc _) w5.heap.size ((A4, code.length, k4), wh) #[.slice A4 code.length k4, .int .i64 wh] rfl rfl (heap_alloc_new w5 _) (by show (lr.length + 1) * (32 + 1) ≤ _; rw [HLR.out]; omega) (by simp; omega) ?_
            intro g2 c2 w6 hown hgrow
            have bx5 := blkold ((HB5.out.block wo.heap.size hwo (fun c => c)).trans BX.out) (.cells #[.slice A4 code.length k4, .int .i64 wh] 58)
            have TY := El.typed ((HRL.out.new HB5.out).alloc (.cells #[.slice A4 code.length k4, .int .i64 wh] 58))
            have hno : some wo.heap.size ≠ (Value.slice A3 lr.length k3).ownBlock := fun e => by
              obtain ⟨_, _, cs, hc⟩ := TY _ e.symm
              rw [bx5] at hc
              injection hc with hc
              injection hc with _ hc
              exact absurd hc (by decide)
            have hn7 : some wr.heap.size ≠ (Value.slice A3 lr.length k3).ownBlock := fun e => by
              have := (El.typed HRL.out _ e.symm).2.1
              omega
            have bx6 := (hgrow.block wo.heap.size (by simp; omega) hno).trans bx5
            have b76 := (hgrow.block wr.heap.size (by simp; omega) hn7).trans (blkold B7.out _)
            have q6 : w6.cell? ⟨wo.heap.size, 6, none⟩ = some (.slice A3 lr.length k3) := blkcell bx6 6 (by simp [jobCs])
            have qf : ∀ i, w6.frozen? ⟨wo.heap.size, i, none⟩ = false := blkfree bx6
            have x1 : w6.cell? ⟨wr.heap.size, 0, none⟩ = some (.slice Ac code.length cc) := blkcell b76 0 (by simp)
            have x2 : w6.cell? ⟨wr.heap.size, 1, none⟩ = some (.int .i64 wh) := blkcell b76 1 (by simp)
            have hB6 := El.Own.grown (E := rlE) ((HRS.out.but.trans HB5.out).alloc (.cells #[.slice A4 code.length k4, .int .i64 wh] 58)) ((HRL.out.new HB5.out).alloc (.cells #[.slice A4 code.length k4, .int .i64 wh] 58)) hgrow (Nat.le_refl _)
            have hH5 : HeldS [58, 52] w5 w6 := (heldS_new ((But.refl No w5).alloc (.cells #[.slice A4 code.length k4, .int .i64 wh] 58))).trans (heldS_grow hgrow (fun k e => by obtain ⟨_, _, cs, hc⟩ := TY k e; exact ⟨cs, _, hc, by simp⟩))
            have hH6 : HeldS [58, 52] w5 (w6.setCell ⟨wo.heap.size, 6, none⟩ (.slice (some ⟨g2, 0, none⟩) (lr.length + 1) c2)) := hH5.trans (heldS_set (p := ⟨wo.heap.size, 6, none⟩) bx6 (by simp) _)
            have hH0 : HeldS [58, 52] wr (w6.setCell ⟨wo.heap.size, 6, none⟩ (.slice (some ⟨g2, 0, none⟩) (lr.length + 1) c2)) := (heldS_new HB5.out).trans hH6
            have bx7 := blkset bx6 6 (.slice (some ⟨g2, 0, none⟩) (lr.length + 1) c2)
            have HX := Lib.hid (show RlSt wo j (.slice A1 n1 k1) (.slice A2 n2 k2) (k + 1) (w6.setCell ⟨wo.heap.size, 6, none⟩ (.slice (some ⟨g2, 0, none⟩) (lr.length + 1) c2)) from
              ⟨hB6.setCell (p := ⟨wo.heap.size, 6, none⟩) (.inr (Nat.le_refl _)) _, ⟨.slice (some ⟨g2, 0, none⟩) (lr.length + 1) c2, lr ++ [((A4, code.length, k4), wh)], by simpa [jobCs] using bx7, own_far hown (p := ⟨wo.heap.size, 6, none⟩) bx6 (by decide) _, by rw [List.length_append, HLR.out]; rfl, by
                rw [List.take_succ_eq_append_getElem hkj, HRU.out]
                exact All2.snoc ⟨own_held HOC.out hH6 (by decide), rfl⟩ (HRD.out.keepS hH0 (by decide))⟩, own_held HRS.out.vars hH0 (by decide), own_held HRS.out.preds hH0 (by decide)⟩)
            clear hown hgrow bx5 TY hno hn7 bx6 b76 hB6 hH5 hH6 hH0 bx7 s0 s0b s1 s2 hAs
            refine hK9.out _ _ ⟨x1, x2⟩ (fun hS => ?_)
            try simp only [putS, List.getElem_toArray, List.getElem_cons_zero, List.getElem_cons_succ]
            refine takeE 10 (some 63) rfl rfl (fun w e1 => by obtain ⟨e1, e2⟩ := e1; go_simp <;> (with_reducible rfl)) hS ?_
            simp only [putS]
            refine wpAnyH_ready (rs := [11]) (by kernel_rfl) (by simp) (AllReadyH.cons rfl (fun K11 hK11 => ?_) AllReadyH.nil)
            rw [if_pos (by kernel_rfl)]
            go_simp
            refine hK11.out _ _ ⟨by go_simp, by go_simp⟩ (fun hS => ?_)
            try simp only [putS, List.getElem_toArray, List.getElem_cons_zero, List.getElem_cons_succ]
            refine wpAnyH_done (by kernel_rfl) ?_ _
            go_wp2_with fail
            go_roundg (m - (k + 1))
            case measure => rw [HGK2.out, HM.out]; omega
            case rel => exact ⟨k + 1, by rw [HM.out], by rw [HM.out]; omega, by go_num, HX.out⟩
          · skip
            rw [if_pos (by kernel_rfl)]
            go_simp
            go_at_call 28
            refine (copySteps0 Ac cc code _ (stepsIn_lies ((HPS.out.but hBa.out).but ((But.refl No Wa).drew))) (by omega)).mono ?_
            rintro e w5 ⟨vc, rfl, hoc, hb5⟩
            obtain ⟨A4, k4, hv4⟩ := hoc.slice
            subst hv4
            have hb5' : But No Wa w5 := ((But.refl No Wa).drew).trans hb5
            have HB5 := Lib.hid (hBa.out.trans hb5')
            have HOC := Lib.hid (show psE.Own w5 wo.heap.size (.slice A4 code.length k4) code from own_mono hoc (by show wo.heap.size ≤ Wa.heap.size; omega))
            have s0 := hb5'.cell_some a0 (fun c => c)
            have b7 := (hb5'.block wr.heap.size (by omega) (fun c => c)).trans BX7.out
            have s1 : w5.cell? ⟨wr.heap.size, 0, none⟩ = some (.slice Ac code.length cc) := blkcell b7 0 (by simp)
            have s2 : w5.cell? ⟨wr.heap.size, 1, none⟩ = some (.int .i64 wh) := blkcell b7 1 (by simp)
            have B7 := Lib.hid b7
            have hs5 := hb5'.size
            clear hb5 hb5' hoc b7
            simp only []
            refine hK4.out _ _ ⟨s1, s2⟩ (fun hS => ?_)
            try simp only [putS, List.getElem_toArray, List.getElem_cons_zero, List.getElem_cons_succ]
            refine takeE 7 (some 60) rfl rfl (fun w e1 => by obtain ⟨e1, e2⟩ := e1; go_simp <;> (with_reducible rfl)) hS ?_
            simp only [putS]
            refine wpAnyH_ready (rs := [1, 8]) (by kernel_rfl) (by simp) (AllReadyH.cons rfl (fun K1 hK1 => ?_) (AllReadyH.cons rfl (fun K8 hK8 => ?_) AllReadyH.nil))
            · skip
              rw [if_pos (by kernel_rfl)]
              go_simp
              refine hK1.out _ _ ⟨s1, s2⟩ (fun hS => ?_)
              try simp only [putS, List.getElem_toArray, List.getElem_cons_zero, List.getElem_cons_succ]
              refine wpAnyH_ready (rs := [8]) (by kernel_rfl) (by simp) (AllReadyH.cons rfl (fun K8 hK8 => ?_) AllReadyH.nil)
              rw [if_pos (by kernel_rfl)]
              go_simp
              have hAs : But No w5 (w5.alloc (.cells #[.slice A4 code.length k4, .int .i64 wh] 58)) := (But.refl No w5).alloc _
              have s0b := hAs.cell_some s0 (fun c => c)
              refine hK8.out _ _ ⟨hAs.cell_some s1 (fun c => c), hAs.cell_some s2 (fun c => c)⟩ (fun hS => ?_)
              try simp only [putS, List.getElem_toArray, List.getElem_cons_zero, List.getElem_cons_succ]
              refine wpAnyH_ready (rs := [9]) (by kernel_rfl) (by simp) (AllReadyH.cons rfl (fun K9 hK9 => ?_) AllReadyH.nil)
              refine rlE.step1 rfl _ _ rfl rfl wo.heap.size (.slice A3 lr.length k3) lr rfl ((HRL.out.new HB5.out).alloc _) w5.heap.size ((A4, code.length, k4), wh) #[.slice A4 code.length k4, .int .i64 wh] rfl rfl (heap_alloc_new w5 _) (by show (lr.length + 1) * (32 + 1) ≤ _; rw [HLR.out]; omega) (by simp; omega) ?_
              intro g2 c2 w6 hown hgrow
              have bx5 := blkold ((HB5.out.block wo.heap.size hwo (fun c => c)).trans BX.out) (.cells #[.slice A4 code.length k4, .int .i64 wh] 58)
              have TY := El.typed ((HRL.out.new HB5.out).alloc (.cells #[.slice A4 code.length k4, .int .i64 wh] 58))
              have hno : some wo.heap.size ≠ (Value.slice A3 lr.length k3).ownBlock := fun e => by
                obtain ⟨_, _, cs, hc⟩ := TY _ e.symm
                rw [bx5] at hc
                injection hc with hc
                injection hc with _ hc
                exact absurd hc (by decide)
              have hn7 : some wr.heap.size ≠ (Value.slice A3 lr.length k3).ownBlock := fun e => by
                have := (El.typed HRL.out _ e.symm).2.1
                omega
              have bx6 := (hgrow.block wo.heap.size (by simp; omega) hno).trans bx5
              have b76 := (hgrow.block wr.heap.size (by simp; omega) hn7).trans (blkold B7.out _)
              have q6 : w6.cell? ⟨wo.heap.size, 6, none⟩ = some (.slice A3 lr.length k3) := blkcell bx6 6 (by simp [jobCs])
              have qf : ∀ i, w6.frozen? ⟨wo.heap.size, i, none⟩ = false := blkfree bx6
              have x1 : w6.cell? ⟨wr.heap.size, 0, none⟩ = some (.slice Ac code.length cc) := blkcell b76 0 (by simp)
              have x2 : w6.cell? ⟨wr.heap.size, 1, none⟩ = some (.int .i64 wh) := blkcell b76 1 (by simp)
              have hB6 := El.Own.grown (E := rlE) ((HRS.out.but.trans HB5.out).alloc (.cells #[.slice A4 code.length k4, .int .i64 wh] 58)) ((HRL.out.new HB5.out).alloc (.cells #[.slice A4 code.length k4, .int .i64 wh] 58)) hgrow (Nat.le_refl _)
              have hH5 : HeldS [58, 52] w5 w6 := (heldS_new ((But.refl No w5).alloc (.cells #[.slice A4 code.length k4, .int .i64 wh] 58))).trans (heldS_grow hgrow (fun k e => by obtain ⟨_, _, cs, hc⟩ := TY k e; exact ⟨cs, _, hc, by simp⟩))
              have hH6 : HeldS [58, 52] w5 (w6.setCell ⟨wo.heap.size, 6, none⟩ (.slice (some ⟨g2, 0, none⟩) (lr.length + 1) c2)) := hH5.trans (heldS_set (p := ⟨wo.heap.size, 6, none⟩) bx6 (by simp) _)
              have hH0 : HeldS [58, 52] wr (w6.setCell ⟨wo.heap.size, 6, none⟩ (.slice (some ⟨g2, 0, none⟩) (lr.length + 1) c2)) := (heldS_new HB5.out).trans hH6
              have bx7 := blkset bx6 6 (.slice (some ⟨g2, 0, none⟩) (lr.length + 1) c2)
              have HX := Lib.hid (show RlSt wo j (.slice A1 n1 k1) (.slice A2 n2 k2) (k + 1) (w6.setCell ⟨wo.heap.size, 6, none⟩ (.slice (some ⟨g2, 0, none⟩) (lr.length + 1) c2)) from
                ⟨hB6.setCell (p := ⟨wo.heap.size, 6, none⟩) (.inr (Nat.le_refl _)) _, ⟨.slice (some ⟨g2, 0, none⟩) (lr.length + 1) c2, lr ++ [((A4, code.length, k4), wh)], by simpa [jobCs] using bx7, own_far hown (p := ⟨wo.heap.size, 6, none⟩) bx6 (by decide) _, by rw [List.length_append, HLR.out]; rfl, by
                  rw [List.take_succ_eq_append_getElem hkj, HRU.out]
                  exact All2.snoc ⟨own_held HOC.out hH6 (by decide), rfl⟩ (HRD.out.keepS hH0 (by decide))⟩, own_held HRS.out.vars hH0 (by decide), own_held HRS.out.preds hH0 (by decide)⟩)
              clear hown hgrow bx5 TY hno hn7 bx6 b76 hB6 hH5 hH6 hH0 bx7 s0 s0b s1 s2 hAs
              refine hK9.out _ _ ⟨x1, x2⟩ (fun hS => ?_)
              try simp only [putS, List.getElem_toArray, List.getElem_cons_zero, List.getElem_cons_succ]
              refine takeE 10 (some 63) rfl rfl (fun w e1 => by obtain ⟨e1, e2⟩ := e1; go_simp <;> (with_reducible rfl)) hS ?_
              simp only [putS]
              refine wpAnyH_ready (rs := [11]) (by kernel_rfl) (by simp) (AllReadyH.cons rfl (fun K11 hK11 => ?_) AllReadyH.nil)
              rw [if_pos (by kernel_rfl)]
              go_simp
              refine hK11.out _ _ ⟨by go_simp, by go_simp⟩ (fun hS => ?_)
              try simp only [putS, List.getElem_toArray, List.getElem_cons_zero, List.getElem_cons_succ]
              refine wpAnyH_done (by kernel_rfl) ?_ _
              go_wp2_with fail
              go_roundg (m - (k + 1))
              case measure => rw [HGK2.out, HM.out]; omega
              case rel => exact ⟨k + 1, by rw [HM.out], by rw [HM.out]; omega, by go_num, HX.out⟩
            · skip
              rw [if_pos (by kernel_rfl)]
              go_simp
              have hAs : But No w5 (w5.alloc (.cells #[.slice A4 code.length k4, .int .i64 wh] 58)) := (But.refl No w5).alloc _
              have s0b := hAs.cell_some s0 (fun c => c)
              refine hK8.out _ _ ⟨hAs.cell_some s1 (fun c => c), hAs.cell_some s2 (fun c => c)⟩ (fun hS => ?_)
              try simp only [putS, List.getElem_toArray, List.getElem_cons_zero, List.getElem_cons_succ]
              refine wpAnyH_ready (rs := [1]) (by kernel_rfl) (by simp) (AllReadyH.cons rfl (fun K1 hK1 => ?_) AllReadyH.nil)
              rw [if_pos (by kernel_rfl)]
              go_simp
              refine hK1.out _ _ ⟨hAs.cell_some s1 (fun c => c), hAs.cell_some s2 (fun c => c)⟩ (fun hS => ?_)
              try simp only [putS, List.getElem_toArray, List.getElem_cons_zero, List.getElem_cons_succ]
              refine wpAnyH_ready (rs := [9]) (by kernel_rfl) (by simp) (AllReadyH.cons rfl (fun K9 hK9 => ?_) AllReadyH.nil)
              refine rlE.step1 rfl _ _ rfl rfl wo.heap.size (.slice A3 lr.length k3) lr rfl ((HRL.out.new HB5.out).alloc _) w5.heap.size ((A4, code.length, k4), wh) #[.slice A4 code.length k4, .int .i64 wh] rfl rfl (heap_alloc_new w5 _) (by show (lr.length + 1) * (32 + 1) ≤ _; rw [HLR.out]; omega) (by simp; omega) ?_
              intro g2 c2 w6 hown hgrow
              have bx5 := blkold ((HB5.out.block wo.heap.size hwo (fun c => c)).trans BX.out) (.cells #[.slice A4 code.length k4, .int .i64 wh] 58)
              have TY := El.typed ((HRL.out.new HB5.out).alloc (.cells #[.slice A4 code.length k4, .int .i64 wh] 58))
              have hno : some wo.heap.size ≠ (Value.slice A3 lr.length k3).ownBlock := fun e => by
                obtain ⟨_, _, cs, hc⟩ := TY _ e.symm
                rw [bx5] at hc
                injection hc with hc
                injection hc with _ hc
                exact absurd hc (by decide)
              have hn7 : some wr.heap.size ≠ (Value.slice A3 lr.length k3).ownBlock := fun e => by
                have := (El.typed HRL.out _ e.symm).2.1
                omega
              have bx6 := (hgrow.block wo.heap.size (by simp; omega) hno).trans bx5
              have b76 := (hgrow.block wr.heap.size (by simp; omega) hn7).trans (blkold B7.out _)
              have q6 : w6.cell? ⟨wo.heap.size, 6, none⟩ = some (.slice A3 lr.length k3) := blkcell bx6 6 (by simp [jobCs])
              have qf : ∀ i, w6.frozen? ⟨wo.heap.size, i, none⟩ = false := blkfree bx6
              have x1 : w6.cell? ⟨wr.heap.size, 0, none⟩ = some (.slice Ac code.length cc) := blkcell b76 0 (by simp)
              have x2 : w6.cell? ⟨wr.heap.size, 1, none⟩ = some (.int .i64 wh) := blkcell b76 1 (by simp)
              have hB6 := El.Own.grown (E := rlE) ((HRS.out.but.trans HB5.out).alloc (.cells #[.slice A4 code.length k4, .int .i64 wh] 58)) ((HRL.out.new HB5.out).alloc (.cells #[.slice A4 code.length k4, .int .i64 wh] 58)) hgrow (Nat.le_refl _)
              have hH5 : HeldS [58, 52] w5 w6 := (heldS_new ((But.refl No w5).alloc (.cells #[.slice A4 code.length k4, .int .i64 wh] 58))).trans (heldS_grow hgrow (fun k e => by obtain ⟨_, _, cs, hc⟩ := TY k e; exact ⟨cs, _, hc, by simp⟩))
              have hH6 : HeldS [58, 52] w5 (w6.setCell ⟨wo.heap.size, 6, none⟩ (.slice (some ⟨g2, 0, none⟩) (lr.length + 1) c2)) := hH5.trans (heldS_set (p := ⟨wo.heap.size, 6, none⟩) bx6 (by simp) _)
              have hH0 : HeldS [58, 52] wr (w6.setCell ⟨wo.heap.size, 6, none⟩ (.slice (some ⟨g2, 0, none⟩) (lr.length + 1) c2)) := (heldS_new HB5.out).trans hH6
              have bx7 := blkset bx6 6 (.slice (some ⟨g2, 0, none⟩) (lr.length + 1) c2)
              have HX := Lib.hid (show RlSt wo j (.slice A1 n1 k1) (.slice A2 n2 k2) (k + 1) (w6.setCell ⟨wo.heap.size, 6, none⟩ (.slice (some ⟨g2, 0, none⟩) (lr.length + 1) c2)) from
                ⟨hB6.setCell (p := ⟨wo.heap.size, 6, none⟩) (.inr (Nat.le_refl _)) _, ⟨.slice (some ⟨g2, 0, none⟩) (lr.length + 1) c2, lr ++ [((A4, code.length, k4), wh)], by simpa [jobCs] using bx7, own_far hown (p := ⟨wo.heap.size, 6, none⟩) bx6 (by decide) _, by rw [List.length_append, HLR.out]; rfl, by
                  rw [List.take_succ_eq_append_getElem hkj, HRU.out]
                  exact All2.snoc ⟨own_held HOC.out hH6 (by decide), rfl⟩ (HRD.out.keepS hH0 (by decide))⟩, own_held HRS.out.vars hH0 (by decide), own_held HRS.out.preds hH0 (by decide)⟩)
              clear hown hgrow bx5 TY hno hn7 bx6 b76 hB6 hH5 hH6 hH0 bx7 s0 s0b s1 s2 hAs
              refine hK9.out _ _ ⟨x1, x2⟩ (fun hS => ?_)
              try simp only [putS, List.getElem_toArray, List.getElem_cons_zero, List.getElem_cons_succ]
              refine takeE 10 (some 63) rfl rfl (fun w e1 => by obtain ⟨e1, e2⟩ := e1; go_simp <;> (with_reducible rfl)) hS ?_
              simp only [putS]
              refine wpAnyH_ready (rs := [11]) (by kernel_rfl) (by simp) (AllReadyH.cons rfl (fun K11 hK11 => ?_) AllReadyH.nil)
              rw [if_pos (by kernel_rfl)]
              go_simp
              refine hK11.out _ _ ⟨by go_simp, by go_simp⟩ (fun hS => ?_)
              try simp only [putS, List.getElem_toArray, List.getElem_cons_zero, List.getElem_cons_succ]
              refine wpAnyH_done (by kernel_rfl) ?_ _
              go_wp2_with fail
              go_roundg (m - (k + 1))
              case measure => rw [HGK2.out, HM.out]; omega
              case rel => exact ⟨k + 1, by rw [HM.out], by rw [HM.out]; omega, by go_num, HX.out⟩
        · have hke : k = m := by omega
          have hkt' : ¬ (k : Int) < (m : Int) := by omega
          have dk : decide ((k : Int) < (m : Int)) = false := decide_eq_false hkt'
          have hCP2 := HST.out.new HRS.out.but
          obtain ⟨vj, lv, hg3, hjo, hlv, hjd⟩ := hCP2.rows
          obtain ⟨A5, k5, hv5⟩ := hjo.slice
          subst hv5
          have hwo : wo.heap.size < wr.heap.size := lt_of_block BX.out
          have d0 : wr.cell? ⟨wo.heap.size, 0, none⟩ = some (.int .i64 j.one.name) := blkcell BX.out 0 (by simp [jobCs])
          have d1 : wr.cell? ⟨wo.heap.size, 1, none⟩ = some (.int .i64 j.one.run) := blkcell BX.out 1 (by simp [jobCs])
          have d2 : wr.cell? ⟨wo.heap.size, 2, none⟩ = some (.int .i64 j.one.stage) := blkcell BX.out 2 (by simp [jobCs])
          have d3 : wr.cell? ⟨wo.heap.size, 3, none⟩ = some (.int .i64 j.one.when_) := blkcell BX.out 3 (by simp [jobCs])
          have d4 : wr.cell? ⟨wo.heap.size, 4, none⟩ = some (.bool j.allow) := blkcell BX.out 4 (by simp [jobCs])
          have d5 : wr.cell? ⟨wo.heap.size, 5, none⟩ = some (.int .i64 j.one.weight) := blkcell BX.out 5 (by simp [jobCs])
          have d7 : wr.cell? ⟨wo.heap.size, 7, none⟩ = some (.slice A1 n1 k1) := blkcell BX.out 7 (by simp [jobCs])
          have d8 : wr.cell? ⟨wo.heap.size, 8, none⟩ = some (.slice A2 n2 k2) := blkcell BX.out 8 (by simp [jobCs])
          have e1 : wr.cell? ⟨g3, 1, none⟩ = some (.slice A5 lv.length k5) := blkcell hg3 1 (by simp)
          have HCP2 := Lib.hid hCP2
          have HG3 := Lib.hid hg3
          have HJO := Lib.hid hjo
          have HJD := Lib.hid hjd
          have HLV := Lib.hid hlv
          have hlvz : lv.length ≤ 1073741824 := by omega
          have hgl := lt_of_block hg3
          clear hCP2 hg3 hjo hjd hlv
          go_wp2_with (at_builtin; refine jbE.append rfl _ _ rfl rfl w.heap.size (.slice A5 lv.length k5) lv rfl (HJO.out.alloc _) ⟨wr.heap.size, 0, none⟩ 1 1 [⟨j.one, j.allow, (A3, lr.length, k3), (A1, n1, k1), (A2, n2, k2)⟩] rfl (by omega) rfl (jbE.cells_new (heap_alloc_new wr _) rfl) (by show (lv.length + 1) * (120 + 1) ≤ _; omega) (by simp; omega) ?_; intro g2 c2 w6 hown hgrow; (have bg6 := grow_block hgrow (typed_own (HJO.out.alloc _)) (blkold HG3.out _) (by decide)); (have q6 : w6.cell? ⟨g3, 1, none⟩ = some (.slice A5 lv.length k5) := blkcell bg6 1 (by simp)); (have qf : ∀ i, w6.frozen? ⟨g3, i, none⟩ = false := blkfree bg6); (have BG6 := Lib.hid bg6); (have HOWN := Lib.hid hown); (have HGROW := Lib.hid hgrow); clear bg6 hown hgrow)
          have hB6 := El.Own.grown (E := jbE) (HCP2.out.but.alloc (.cells (jobCs j (.slice A3 lr.length k3) (.slice A1 n1 k1) (.slice A2 n2 k2)) 52)) (HJO.out.alloc _) HGROW.out (Nat.le_refl _)
          have hH1 : HeldS [52, 25] wr (w6.setCell ⟨g3, 1, none⟩ (.slice (some ⟨g2, 0, none⟩) (lv.length + 1) c2)) := ((heldS_new ((But.refl No wr).alloc _)).trans (heldS_grow HGROW.out (fun k e => by obtain ⟨cs, hc⟩ := typed_own (HJO.out.alloc _) k e; exact ⟨cs, _, hc, by simp⟩))).trans (heldS_set (p := ⟨g3, 1, none⟩) BG6.out (by simp) _)
          have hg3' : g3 ≠ w.heap.size := by have := HCP2.out.lo; omega
          have hg3'' : g3 ≠ w.heap.size + 1 := by have := HCP2.out.lo; omega
          have hbx := blkset BG6.out 1 (.slice (some ⟨g2, 0, none⟩) (lv.length + 1) c2)
          have hij : i < js.length := by rw [HNJ.out]; exact hlt
          have hall : j.rules.take k = j.rules := by rw [hke, ← HM.out, List.take_length]
          have hrd2 := HRD.out
          rw [hall] at hrd2
          have hlo : w.heap.size ≤ wo.heap.size := HST.out.but.size
          have HX := Lib.hid (show CpSt w g3 At nt ct (some ad) nj cj (.slice Av nt cv) ts js (i + 1) (w6.setCell ⟨g3, 1, none⟩ (.slice (some ⟨g2, 0, none⟩) (lv.length + 1) c2)) from
            ⟨hB6.setCell (p := ⟨g3, 1, none⟩) (.inr (by have := HCP2.out.lo; show w.heap.size ≤ g3; omega)) _, blkfar (grow_block HGROW.out (typed_own (HJO.out.alloc _)) (blkold HCP2.out.b1 _) (by decide)) (p := ⟨g3, 1, none⟩) (fun e => hg3' e.symm) _, blkfar (grow_block HGROW.out (typed_own (HJO.out.alloc _)) (blkold HCP2.out.b2 _) (by decide)) (p := ⟨g3, 1, none⟩) (fun e => hg3'' e.symm) _, HCP2.out.lo, own_held HCP2.out.texts hH1 (by decide), ⟨.slice (some ⟨g2, 0, none⟩) (lv.length + 1) c2, lv ++ [⟨j.one, j.allow, (A3, lr.length, k3), (A1, n1, k1), (A2, n2, k2)⟩], by simpa using hbx, own_far HOWN.out (p := ⟨g3, 1, none⟩) BG6.out (by decide) _, by rw [List.length_append, HLV.out]; rfl, by
              rw [List.take_succ_eq_append_getElem hij, HJE.out]
              exact All2.snoc ⟨rfl, rfl, ⟨lr, own_mono (own_held HRL.out hH1 (by decide)) hlo, by rw [HLR.out, HM.out]; exact hke, All2.imp (fun a b hh => ⟨own_mono (own_held hh.1 hH1 (by decide)) hlo, hh.2⟩) hrd2⟩, own_mono (own_held HRS.out.vars hH1 (by decide)) hlo, own_mono (own_held HRS.out.preds hH1 (by decide)) hlo⟩ (All2.imp (fun a b hh => hh.keepS hH1 (by decide) (by decide) (by decide) (by decide)) HJD.out)⟩⟩)
          clear hB6 hH1 hbx hrd2
          go_roundg (nj - (i + 1))
          case measure => rw [HGK.out]; omega
          case rel => exact ⟨i + 1, rfl, by omega, by go_num, HX.out⟩
    · have hie : i = nj := by omega
      have hlt' : ¬ (i : Int) < (nj : Int) := by omega
      have dl : decide ((i : Int) < (nj : Int)) = false := decide_eq_false hlt'
      obtain ⟨vj, lv, hg3, hjo, hlv, hjd⟩ := HST.out.rows
      obtain ⟨A5, k5, hv5⟩ := hjo.slice
      subst hv5
      have hlvn : lv.length = nj := by rw [hlv]; exact hie
      rw [hlvn] at hg3 hjo
      have e0 : wo.cell? ⟨g3, 0, none⟩ = some (.slice Av nt cv) := blkcell hg3 0 (by simp)
      have e1 : wo.cell? ⟨g3, 1, none⟩ = some (.slice A5 nj k5) := blkcell hg3 1 (by simp)
      have e2 : wo.cell? ⟨w.heap.size + 1, 0, none⟩ = some (.slice none 0 0) := blkcell HST.out.b2 0 (by simp)
      have e3 : wo.cell? ⟨w.heap.size + 1, 1, none⟩ = some (.slice none 0 0) := blkcell HST.out.b2 1 (by simp)
      have ef : ∀ i, wo.frozen? ⟨w.heap.size + 1, i, none⟩ = false := blkfree HST.out.b2
      have HJO := Lib.hid hjo
      have HJD := Lib.hid hjd
      have HLV := Lib.hid hlv
      clear hg3 hjo hjd hlv
      go_wp2_with fail
      have hfin := blkset (blkset HST.out.b2 0 (.slice Av nt cv)) 1 (.slice A5 nj k5)
      simp only [List.setIfInBounds_toArray, List.set_cons_zero, List.set_cons_succ] at hfin
      have hB := (HST.out.but.setCell (p := ⟨w.heap.size + 1, 0, none⟩) (.inr (by show w.heap.size ≤ w.heap.size + 1; omega)) (.slice Av nt cv)).setCell (p := ⟨w.heap.size + 1, 1, none⟩) (.inr (by show w.heap.size ≤ w.heap.size + 1; omega)) (.slice A5 nj k5)
      have hH : HeldS [25] wo ((wo.setCell ⟨w.heap.size + 1, 0, none⟩ (.slice Av nt cv)).setCell ⟨w.heap.size + 1, 1, none⟩ (.slice A5 nj k5)) := (heldS_set (p := ⟨w.heap.size + 1, 0, none⟩) HST.out.b2 (by simp) _).trans (heldS_set (p := ⟨w.heap.size + 1, 1, none⟩) (blkset HST.out.b2 0 (.slice Av nt cv)) (by simp) _)
      refine bodyPost_ret (results_cell_row rfl _ _ (w.heap.size + 1) 25 #[.slice Av nt cv, .slice A5 nj k5] (0, 0) _ rfl hfin Try.underlying25 rfl (by kernel_rfl)) rfl ?_
      have hjd := HJD.out
      rw [hie, ← HNJ.out, List.take_length] at hjd
      have hjo := own_held HJO.out hH (by decide)
      refine ⟨hB, Av, cv, A5, k5, rfl, own_held HST.out.texts hH (by decide), lv, hjo, by rw [hlvn, HNJ.out], All2.imp (fun a b hh => hh.keepS hH (by decide) (by decide) (by decide) (by decide)) hjd⟩
end Go.Proofs.Ytoaopjbgaehpfaa.G
