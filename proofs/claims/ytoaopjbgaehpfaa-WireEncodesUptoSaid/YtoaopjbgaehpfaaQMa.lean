/- Texts of this claim, joined: words and laws that the others use. -/
import Derived.Test.YtoaopjbgaehpfaaQJz
import Derived.Test.YtoaopjbgaehpfaaQGk
section
/- wire's reader: the head of a plan. -/
namespace Go.Proofs.Ytoaopjbgaehpfaa.G
open Go.RowKit
attribute [local simp, local go_sem] alloc_drewN setCell_drewN
set_option linter.unusedVariables false
set_option linter.unusedSimpArgs false
set_option maxRecDepth 100000
def headL : List Int := [83, 72, 85, 84, 1]
/-- The head, from the byte k on: all of it, or why not and where. -/
def headR (bs : List Int) : List Int → Nat → RR Unit
  | [], a => .inr ((), a)
  | c :: l, a => if a < bs.length then (if bs.getD a 0 = c then headR bs l (a + 1) else .inl (182, a + 1)) else .inl (181, a)
def planR (bs : List Int) : RR (List ByteArray × List JobP) :=
  rbind (headR bs headL 0) fun _ a => rbind (rowsR bs (textR bs) a) fun ts a1 => rbind (rowsR bs (jobR bs) a1) fun js a2 => if a2 = bs.length then .inr ((ts, js), a2) else .inl (182, a2)
theorem textR_in {bs : List Int} (hB : Bytes bs) {a : Nat} {x : ByteArray} {a' : Nat} (h : textR bs a = .inr (x, a')) : a' ≤ bs.length := by
  unfold textR at h
  obtain ⟨n, a1, h1, h2⟩ := rbind_in h
  by_cases hl : a1 + n.toNat ≤ bs.length
  · rw [if_pos hl] at h2
    injection h2 with h2
    injection h2 with _ h2
    omega
  · rw [if_neg hl] at h2; cases h2
theorem jobR_in {bs : List Int} (hB : Bytes bs) {a : Nat} {x : JobP} {a' : Nat} (h : jobR bs a = .inr (x, a')) : a' ≤ bs.length := by
  unfold jobR at h
  obtain ⟨ns, a1, h1, h2⟩ := rbind_in h
  unfold jobR2 at h2
  obtain ⟨c, a2, h3, h4⟩ := rbind_in h2
  by_cases hc : c ≤ 1
  · rw [if_pos hc] at h4
    unfold jobR3 at h4
    obtain ⟨rs, a3, h5, h6⟩ := rbind_in h4
    obtain ⟨vs, a4, h7, h8⟩ := rbind_in h6
    obtain ⟨ps, a5, h9, h10⟩ := rbind_in h8
    have := rowsR_in hB (fun a x a' hh => (numberR_in hB hh).2.2.2) h9
    injection h10 with h10
    injection h10 with _ h10
    omega
  · rw [if_neg hc] at h4; cases h4
/-- All jobs that were read lie so. -/
def JobsDone (base : Nat) (ls : List JobP) (lv : List JobV) (W : World) : Prop := All2 (fun x x' => JobLies base x x' W) ls lv
theorem JobLies.one_ {g base : Nat} {x : JobP} {x' : JobV} {W W' : World} (h : JobLies base x x' W) (hb : But (One g) W W') (hg : g < base) : JobLies base x x' W' := by
  obtain ⟨lv, h1, h2, h3⟩ := h.rules
  exact ⟨h.one, h.allow, ⟨lv, h1.but hb (fun k h1 h2 (e : k = g) => by omega), h2, h3.one hb hg⟩, h.vars.but hb (fun k h1 h2 (e : k = g) => by omega), h.preds.but hb (fun k h1 h2 (e : k = g) => by omega)⟩
theorem JobLies.lay {g o base : Nat} {T : TypeId} {x : JobP} {x' : JobV} {W W' : World} (h : JobLies base x x' W) (hb : But (Lay g o T W) W W') (h1 : 79 ≠ T) (h2 : 58 ≠ T) (h3 : 81 ≠ T) (h4 : 3 ≠ T) (hg : g < base) (ho : o < base) : JobLies base x x' W' := by
  obtain ⟨lv, i1, i2, i3⟩ := h.rules
  exact ⟨h.one, h.allow, ⟨lv, own_lay i1 hb h2 hg (.inl ho), i2, i3.lay hb h1 hg ho⟩, own_lay h.vars hb h3 hg (.inl ho), own_lay h.preds hb h4 hg (.inl ho)⟩
theorem JobLies.mono {base base' : Nat} {x : JobP} {x' : JobV} {W : World} (h : JobLies base x x' W) (hb : base' ≤ base) : JobLies base' x x' W := by
  obtain ⟨lv, h1, h2, h3⟩ := h.rules
  exact ⟨h.one, h.allow, ⟨lv, own_mono h1 hb, h2, All2.imp (fun a b hh => ⟨own_mono hh.1 hb, hh.2⟩) h3⟩, own_mono h.vars hb, own_mono h.preds hb⟩
/-- What stays while a plan's rows are read (the box is a plan). -/
structure DoneQ (g o : Nat) (T : TypeId) (D : World → Prop) : Prop where
  one : ∀ W W', But (One g) W W' → D W → D W'
  lay : ∀ W W', (∃ cs, W.heap[o]? = some (.cells cs 25 (0, 0))) → D W → But (Lay g o T W) W W' → D W'
theorem DoneQ.and {g o : Nat} {T : TypeId} {D D' : World → Prop} (h : DoneQ g o T D) (h' : DoneQ g o T D') : DoneQ g o T (fun W => D W ∧ D' W) :=
  ⟨fun W W' hb hh => ⟨h.one W W' hb hh.1, h'.one W W' hb hh.2⟩, fun W W' ho hh hb => ⟨h.lay W W' ho hh.1 hb, h'.lay W W' ho hh.2 hb⟩⟩
theorem doneResQ {g o t2 : Nat} {T : TypeId} {cs : Array Value} (hT : 25 ≠ T) (h1 : t2 ≠ g) (h2 : t2 ≠ o) : DoneQ g o T (fun W => W.heap[t2]? = some (.cells cs 25 (0, 0))) :=
  ⟨fun W W' hb hh => (hb.block t2 (lt_of_block hh) h1).trans hh, fun W W' _ hh hb => (hb.block t2 (lt_of_block hh) (Lay.no h1 h2 hh hT)).trans hh⟩
theorem doneOwnQ {g o base : Nat} {T T' Ts : TypeId} {α : Type} {E : El Try.prog T' Ts α} {v : Value} {l : List α} (hT : T' ≠ T) (hJ : 25 ≠ T') (hg : g < base) : DoneQ g o T (fun W => E.Own W base v l) :=
  ⟨fun W W' hb hh => hh.but hb (fun k h1 h2 (e : k = g) => by omega), fun W W' ⟨cs, ho⟩ hh hb => own_lay hh hb hT hg (.inr ⟨cs, _, ho, hJ⟩)⟩
def XJ (D : World → Prop) (o : Nat) (ls : List JobP) (lv : List JobV) (W : World) : Prop := JobsDone (o + 1) ls lv W ∧ D W
section
variable {g : Nat} {A : Option Addr} {cp : Nat} {bs : List Int} {a : Nat} {d : Int} {w0 W : World} {rb o : Nat} {cs : Array Value}
theorem rowsPlanT {D : World → Prop} (hr : Rdr g A bs cp d a W) (hB : Base A bs cp d) (hAo : ∀ ad, A = some ad → ad.block < w0.heap.size) (hbut : But (One g) w0 W) (hgw : g < w0.heap.size) (hD : DoneQ g o 9 D) (hDW : D W)
    (hrb : W.heap[rb]? = some (.cells #[.pointer (some ⟨g, 0, none⟩)] 70 (0, 0))) (ho : W.heap[o]? = some (.cells cs 25 (0, 0))) (hcs : cs.setIfInBounds 0 (.slice none 0 0) = cs) (hsz : 0 < cs.size) (hol : w0.heap.size ≤ o) (hrbg : rb ≠ g) (hog : o ≠ g) :
    Calls Try.prog 46 #[.pointer (some ⟨g, 0, none⟩), .func (.func 47) #[] #[.pointer (some ⟨o, 0, none⟩), .pointer (some ⟨rb, 0, none⟩)]] W
      (RowPost (BadR g A bs cp d w0) (BoxInv g A bs cp d w0 rb o 25 cs 0 sgE (XD D)) (rowsR bs (textR bs) a)) := by
  refine rows1 hr.rd hr.far hB.bytes hr.le hB.dr 47 _ (textR bs) _ _ (enters Try.func47 (by kernel_rfl) (by kernel_rfl)) ?_ ?_ ?_
  · intro a1 w1 hle hb1 hr1
    refine ⟨hr.next hb1 hr1 hle, hbut.trans hb1, (hb1.block rb (lt_of_block hrb) hrbg).trans hrb, .slice none 0 0, [], ?_, El.own_nil _ _, rfl, rfl, hD.one _ _ hb1 hDW⟩
    rw [hcs]
    exact (hb1.block o (lt_of_block ho) hog).trans ho
  · intro a1 w1 hb1 hr1
    exact ⟨hr1, hbut.trans hb1⟩
  · intro a1 l w1 hl hinv
    refine planText (textR bs) (fun _ x x' _ => x' = x) hinv hl hsz hol hgw hAo (by decide) (fun W hW => (text1 hW.rd hW.far hB.bytes hW.le hB.dr hB.spot hB.room hB.room2 hB.ne).mono fun e W' hp => hp.imp fun x a2 _ _ he => ⟨x, he, rfl⟩) (fun x a' h => textR_in hB.bytes h) ?_ ?_
    · rintro ls lv W W' hb ⟨h1, h2⟩
      exact ⟨h1, hD.one _ _ hb h2⟩
    · rintro ls lv x x' W0 W W' _ _ _ hob ⟨h1, h2⟩ rfl hb
      exact ⟨by rw [h1], hD.lay _ _ hob h2 hb⟩
theorem rowsPlanJ {D : World → Prop} (hr : Rdr g A bs cp d a W) (hB : Base A bs cp d) (hAo : ∀ ad, A = some ad → ad.block < w0.heap.size) (hbut : But (One g) w0 W) (hgw : g < w0.heap.size) (hD : DoneQ g o 52 D) (hDW : D W)
    (hrb : W.heap[rb]? = some (.cells #[.pointer (some ⟨g, 0, none⟩)] 70 (0, 0))) (ho : W.heap[o]? = some (.cells cs 25 (0, 0))) (hcs : cs.setIfInBounds 1 (.slice none 0 0) = cs) (hsz : 1 < cs.size) (hol : w0.heap.size ≤ o) (hrbg : rb ≠ g) (hog : o ≠ g) :
    Calls Try.prog 46 #[.pointer (some ⟨g, 0, none⟩), .func (.func 49) #[] #[.pointer (some ⟨o, 0, none⟩), .pointer (some ⟨rb, 0, none⟩)]] W
      (RowPost (BadR g A bs cp d w0) (BoxInv g A bs cp d w0 rb o 25 cs 1 jbE (XJ D o)) (rowsR bs (jobR bs) a)) := by
  refine rows1 hr.rd hr.far hB.bytes hr.le hB.dr 49 _ (jobR bs) _ _ (enters Try.func49 (by kernel_rfl) (by kernel_rfl)) ?_ ?_ ?_
  · intro a1 w1 hle hb1 hr1
    refine ⟨hr.next hb1 hr1 hle, hbut.trans hb1, (hb1.block rb (lt_of_block hrb) hrbg).trans hrb, .slice none 0 0, [], ?_, El.own_nil _ _, rfl, trivial, hD.one _ _ hb1 hDW⟩
    rw [hcs]
    exact (hb1.block o (lt_of_block ho) hog).trans ho
  · intro a1 w1 hb1 hr1
    exact ⟨hr1, hbut.trans hb1⟩
  · intro a1 l w1 hl hinv
    refine planJob (jobR bs) (fun W x x' W' => JobLies W.heap.size x x' W') hinv hl hsz hol hgw hAo (by decide) (fun W hW => (readJob0 hW hB (hW.old hB)).mono fun e W' hp => hp) (fun x a' h => jobR_in hB.bytes h) ?_ ?_
    · rintro ls lv W W' hb ⟨h1, h2⟩
      exact ⟨All2.imp (fun _ _ hh => hh.one_ hb (by omega)) h1, hD.one _ _ hb h2⟩
    · rintro ls lv x x' W0 W W' _ _ ho0 hob ⟨h1, h2⟩ hy hb
      have i1 : JobLies (o + 1) x x' W' := (hy.mono (by omega)).lay hb (by decide) (by decide) (by decide) (by decide) (by omega) (by omega)
      have i2 : All2 (fun x x' => JobLies (o + 1) x x' W') ls lv := All2.imp (R := fun x x' => JobLies (o + 1) x x' W) (fun _ _ hh => JobLies.lay hh hb (by decide) (by decide) (by decide) (by decide) (by omega) (by omega)) h1
      exact ⟨All2.snoc (R := fun x x' => JobLies (o + 1) x x' W') i1 i2, hD.lay _ _ hob h2 hb⟩
end
end Go.Proofs.Ytoaopjbgaehpfaa.G
end
section
/- wire's reader: a plan. -/
namespace Go.Proofs.Ytoaopjbgaehpfaa.G
open Go.RowKit
attribute [local simp, local go_sem] alloc_drewN setCell_drewN
set_option linter.unusedVariables false
set_option linter.unusedSimpArgs false
set_option maxRecDepth 100000
def endC {α : Type} (r : RR α) : Int :=
  match r with
  | .inl (_, a) => (a : Int) + 5
  | .inr (_, a) => (a : Int) + 5
/-- How much has been counted when a plan was read, or given up. -/
def planC (bs : List Int) : Int :=
  match headR bs headL 0 with
  | .inl (_, a) => 2 * (a : Int)
  | .inr _ => endC (planR bs)
structure PlanLies (base : Nat) (At : Option Addr) (nt ct : Nat) (Aj : Option Addr) (nj cj : Nat) (ts : List ByteArray) (js : List JobP) (W : World) : Prop where
  texts : sgE.Own W base (.slice At nt ct) ts
  jobs : ∃ lv, jbE.Own W base (.slice Aj nj cj) lv ∧ lv.length = js.length ∧ JobsDone base js lv W
def PlanPost (g : Nat) (A : Option Addr) (bs : List Int) (cp : Nat) (w : World) (r : RR (List ByteArray × List JobP)) (e : Ending) (w' : World) : Prop :=
  But (One g) w w' ∧ match r with
  | .inl (c, a) => e = .panicked [stopE c] ∧ RdIn g A bs.length cp (a : Int) (planC bs) w'
  | .inr ((ts, js), a) => (∃ At nt ct Aj nj cj, e = .returned (.agg #[.slice At nt ct, .slice Aj nj cj]) ∧ PlanLies w.heap.size At nt ct Aj nj cj ts js w') ∧ RdIn g A bs.length cp (a : Int) (planC bs) w'
structure HeadSt (g : Nat) (A : Option Addr) (bs : List Int) (cp : Nat) (w0 : World) (rb t2 hb : Nat) (k : Nat) (W : World) : Prop where
  rd : RdIn g A bs.length cp (k : Int) (2 * (k : Int)) W
  far : BytesFar W g A bs
  but : But (One g) w0 W
  rbx : W.heap[rb]? = some (.cells #[.pointer (some ⟨g, 0, none⟩)] 70 (0, 0))
  res : W.heap[t2]? = some (.cells #[.slice none 0 0, .slice none 0 0] 25 (0, 0))
  head : W.heap[hb]? = some (.cells #[.int .u8 83, .int .u8 72, .int .u8 85, .int .u8 84, .int .u8 1] 5 (0, 0))
def HeadAt (g : Nat) (A : Option Addr) (bs : List Int) (cp : Nat) (w0 : World) (rb t2 hb : Nat) (gk : Nat) (v : Value) (wr : World) : Prop :=
  ∃ k : Nat, gk = 5 - k ∧ k ≤ 5 ∧ v = .int .i64 (k : Int) ∧ k ≤ bs.length ∧ HeadSt g A bs cp w0 rb t2 hb k wr ∧ headR bs (headL.drop k) k = headR bs headL 0
set_option maxHeartbeats 8000000 in
theorem readPlan0 {g : Nat} {A : Option Addr} {cp : Nat} {bs : List Int} {w : World} (h : RdIn g A bs.length cp 0 0 w) (hf : BytesFar w g A bs) (hB : Bytes bs) (hsp : ∀ ad, A = some ad → ad.spot = none) (hcp : bs.length ≤ cp) (hcp2 : cp ≤ 9223372036854775807) (hAo : ∀ ad, A = some ad → ad.block < w.heap.size) :
    Calls Try.prog 37 #[.pointer (some ⟨g, 0, none⟩)] w (PlanPost g A bs cp w (planR bs)) := by
  have hgl := lt_of_block h
  have hln := hB.len
  have HB := Lib.hid hB
  have HAO := Lib.hid hAo
  have HSP := Lib.hid hsp
  have H := Lib.hid h
  have HF := Lib.hid hf
  have hmf : ∀ (fn : Fn) (first cap : Array Value) (w : World), (Instr.makeFunc fn first cap).run Try.prog w = .ok (.func fn first cap) w := fun _ _ _ _ => rfl
  obtain ⟨T, hT⟩ : ∃ T, planR bs = T := ⟨_, rfl⟩
  have HT := Lib.hid hT
  rw [hT]
  clear h hf hB hAo hT hsp
  go_enter Try.func37, Try.ntmps37
  go_wp2_with (first | (go_at_call 29; refine (head0 _).mono ?_; rintro e w2 ⟨rfl, rfl⟩))
  generalize hW : World.alloc (World.alloc (World.alloc w _) _) _ = W1
  have hhs : HeadSt g A bs cp w w.heap.size (w.heap.size + 1) (w.heap.size + 1 + 1) 0 W1 := by
    rw [← hW]
    refine ⟨blkold (blkold (blkold H.out _) _) _, fun i hi => ?_, (((But.refl _ w).alloc _).alloc _).alloc _, blkold (blkold (heap_alloc_new w _) _) _, blkold (heap_alloc2_newJ w _ _) _, heap_alloc3_newJ w _ _ _⟩
    obtain ⟨ad, h1, h2, h3⟩ := HF.out i hi
    exact ⟨ad, h1, ((((But.refl No w).alloc _).alloc _).alloc _).cell_some h2 (fun c => c), h3⟩
  have HHS := Lib.hid hhs
  clear hhs hW H HF
  obtain ⟨hb, hhb⟩ : ∃ x, w.heap.size + 1 + 1 = x := ⟨_, rfl⟩
  obtain ⟨t2, ht2⟩ : ∃ x, w.heap.size + 1 = x := ⟨_, rfl⟩
  obtain ⟨rb, hrb⟩ : ∃ x, w.heap.size = x := ⟨_, rfl⟩
  rw [hhb, ht2, hrb] at HHS
  rw [hhb, ht2, hrb]
  have b1 : g < rb := by omega
  have b2 : rb < t2 := by omega
  have b3 : t2 < hb := by omega
  have b5 : w.heap.size ≤ rb := by omega
  clear hhb ht2 hrb
  go_loopg [8] 5 (fun gk v wr => HeadAt g A bs cp w rb t2 hb gk v wr)
  case atStart => exact ⟨0, rfl, by decide, rfl, Nat.zero_le _, HHS.out, rfl⟩
  case round =>
    obtain ⟨k, hgk, hk5, rfl, hkl, hjs, hrr⟩ := hrel
    have HGK := Lib.hid hgk
    have HJ := Lib.hid hjs
    have HRR := Lib.hid hrr
    have qrb : wr.cell? ⟨rb, 0, none⟩ = some (.pointer (some ⟨g, 0, none⟩)) := blkcell hjs.rbx 0 (by simp)
    clear hgk hjs hrr HHS
    have hk : k = 0 ∨ k = 1 ∨ k = 2 ∨ k = 3 ∨ k = 4 ∨ k = 5 := by omega
    rcases hk with rfl | rfl | rfl | rfl | rfl | rfl
    · have qh : wr.cell? ⟨hb, 0, none⟩ = some (.int .u8 83) := blkcell HJ.out.head 0 (by simp)
      have hrr : headR bs headL 0 = if 0 < bs.length then (if bs.getD 0 0 = 83 then headR bs (headL.drop (0 + 1)) (0 + 1) else .inl (182, 0 + 1)) else .inl (181, 0) := HRR.out.symm
      go_wp2_with fail
      go_at_call 45
      refine (same0 HJ.out.rd HJ.out.far HB.out (by omega)).mono ?_
      intro e w1 hpost
      obtain ⟨hb1, hp⟩ := hpost
      by_cases hlt : 0 < bs.length
      case neg =>
        rw [if_neg hlt] at hp hrr
        obtain ⟨hr1, rfl⟩ := hp
        have E : T = .inl (181, 0) := by rw [← HT.out]; unfold planR; rw [hrr]; rfl
        have EC : planC bs = 2 * ((0 : Nat) : Int) := by unfold planC; rw [hrr]
        exact ⟨rfl, HJ.out.but.trans hb1, by rw [E]; exact ⟨rfl, by rw [EC]; exact hr1⟩⟩
      rw [if_pos hlt] at hp hrr
      obtain ⟨hr1, hp⟩ := hp
      by_cases hc : bs.getD 0 0 = 83
      case neg =>
        rw [if_neg hc] at hp hrr
        subst hp
        have E : T = .inl (182, 0 + 1) := by rw [← HT.out]; unfold planR; rw [hrr]; rfl
        have EC : planC bs = 2 * ((0 + 1 : Nat) : Int) := by unfold planC; rw [hrr]
        exact ⟨rfl, HJ.out.but.trans hb1, by rw [E]; exact ⟨rfl, by rw [EC]; exact hr1⟩⟩
      rw [if_pos hc] at hp hrr
      subst hp
      have HN := Lib.hid (show HeadSt g A bs cp w rb t2 hb (0 + 1) w1 from ⟨hr1, HJ.out.far.but hb1, HJ.out.but.trans hb1, (hb1.block rb (lt_of_block HJ.out.rbx) (by show ¬ rb = g; omega)).trans HJ.out.rbx, (hb1.block t2 (lt_of_block HJ.out.res) (by show ¬ t2 = g; omega)).trans HJ.out.res, (hb1.block hb (lt_of_block HJ.out.head) (by show ¬ hb = g; omega)).trans HJ.out.head⟩)
      have HRN := Lib.hid hrr.symm
      clear hb1 hr1 hrr hc qh
      simp only []
      go_wp2_with fail
      go_roundg (5 - (0 + 1))
      case measure => rw [HGK.out]; decide
      case rel => exact ⟨0 + 1, rfl, by decide, by go_num, hlt, HN.out, HRN.out⟩
    · have qh : wr.cell? ⟨hb, 1, none⟩ = some (.int .u8 72) := blkcell HJ.out.head 1 (by simp)
      have hrr : headR bs headL 0 = if 1 < bs.length then (if bs.getD 1 0 = 72 then headR bs (headL.drop (1 + 1)) (1 + 1) else .inl (182, 1 + 1)) else .inl (181, 1) := HRR.out.symm
      go_wp2_with fail
      go_at_call 45
      refine (same0 HJ.out.rd HJ.out.far HB.out (by omega)).mono ?_
      intro e w1 hpost
      obtain ⟨hb1, hp⟩ := hpost
      by_cases hlt : 1 < bs.length
      case neg =>
        rw [if_neg hlt] at hp hrr
        obtain ⟨hr1, rfl⟩ := hp
        have E : T = .inl (181, 1) := by rw [← HT.out]; unfold planR; rw [hrr]; rfl
        have EC : planC bs = 2 * ((1 : Nat) : Int) := by unfold planC; rw [hrr]
        exact ⟨rfl, HJ.out.but.trans hb1, by rw [E]; exact ⟨rfl, by rw [EC]; exact hr1⟩⟩
      rw [if_pos hlt] at hp hrr
      obtain ⟨hr1, hp⟩ := hp
      by_cases hc : bs.getD 1 0 = 72
      case neg =>
        rw [if_neg hc] at hp hrr
        subst hp
        have E : T = .inl (182, 1 + 1) := by rw [← HT.out]; unfold planR; rw [hrr]; rfl
        have EC : planC bs = 2 * ((1 + 1 : Nat) : Int) := by unfold planC; rw [hrr]
        exact ⟨rfl, HJ.out.but.trans hb1, by rw [E]; exact ⟨rfl, by rw [EC]; exact hr1⟩⟩
      rw [if_pos hc] at hp hrr
      subst hp
      have HN := Lib.hid (show HeadSt g A bs cp w rb t2 hb (1 + 1) w1 from ⟨hr1, HJ.out.far.but hb1, HJ.out.but.trans hb1, (hb1.block rb (lt_of_block HJ.out.rbx) (by show ¬ rb = g; omega)).trans HJ.out.rbx, (hb1.block t2 (lt_of_block HJ.out.res) (by show ¬ t2 = g; omega)).trans HJ.out.res, (hb1.block hb (lt_of_block HJ.out.head) (by show ¬ hb = g; omega)).trans HJ.out.head⟩)
      have HRN := Lib.hid hrr.symm
      clear hb1 hr1 hrr hc qh
      simp only []
      go_wp2_with fail
      go_roundg (5 - (1 + 1))
      case measure => rw [HGK.out]; decide
      case rel => exact ⟨1 + 1, rfl, by decide, by go_num, hlt, HN.out, HRN.out⟩
    · have qh : wr.cell? ⟨hb, 2, none⟩ = some (.int .u8 85) := blkcell HJ.out.head 2 (by simp)
      have hrr : headR bs headL 0 = if 2 < bs.length then (if bs.getD 2 0 = 85 then headR bs (headL.drop (2 + 1)) (2 + 1) else .inl (182, 2 + 1)) else .inl (181, 2) := HRR.out.symm
      go_wp2_with fail
      go_at_call 45
      refine (same0 HJ.out.rd HJ.out.far HB.out (by omega)).mono ?_
      intro e w1 hpost
      obtain ⟨hb1, hp⟩ := hpost
      by_cases hlt : 2 < bs.length
      case neg =>
        rw [if_neg hlt] at hp hrr
        obtain ⟨hr1, rfl⟩ := hp
        have E : T = .inl (181, 2) := by rw [← HT.out]; unfold planR; rw [hrr]; rfl
        have EC : planC bs = 2 * ((2 : Nat) : Int) := by unfold planC; rw [hrr]
        exact ⟨rfl, HJ.out.but.trans hb1, by rw [E]; exact ⟨rfl, by rw [EC]; exact hr1⟩⟩
      rw [if_pos hlt] at hp hrr
      obtain ⟨hr1, hp⟩ := hp
      by_cases hc : bs.getD 2 0 = 85
      case neg =>
        rw [if_neg hc] at hp hrr
        subst hp
        have E : T = .inl (182, 2 + 1) := by rw [← HT.out]; unfold planR; rw [hrr]; rfl
        have EC : planC bs = 2 * ((2 + 1 : Nat) : Int) := by unfold planC; rw [hrr]
        exact ⟨rfl, HJ.out.but.trans hb1, by rw [E]; exact ⟨rfl, by rw [EC]; exact hr1⟩⟩
      rw [if_pos hc] at hp hrr
      subst hp
      have HN := Lib.hid (show HeadSt g A bs cp w rb t2 hb (2 + 1) w1 from ⟨hr1, HJ.out.far.but hb1, HJ.out.but.trans hb1, (hb1.block rb (lt_of_block HJ.out.rbx) (by show ¬ rb = g; omega)).trans HJ.out.rbx, (hb1.block t2 (lt_of_block HJ.out.res) (by show ¬ t2 = g; omega)).trans HJ.out.res, (hb1.block hb (lt_of_block HJ.out.head) (by show ¬ hb = g; omega)).trans HJ.out.head⟩)
      have HRN := Lib.hid hrr.symm
      clear hb1 hr1 hrr hc qh
      simp only []
      go_wp2_with fail
      go_roundg (5 - (2 + 1))
      case measure => rw [HGK.out]; decide
      case rel => exact ⟨2 + 1, rfl, by decide, by go_num, hlt, HN.out, HRN.out⟩
    · have qh : wr.cell? ⟨hb, 3, none⟩ = some (.int .u8 84) := blkcell HJ.out.head 3 (by simp)
      have hrr : headR bs headL 0 = if 3 < bs.length then (if bs.getD 3 0 = 84 then headR bs (headL.drop (3 + 1)) (3 + 1) else .inl (182, 3 + 1)) else .inl (181, 3) := HRR.out.symm
      go_wp2_with fail
      go_at_call 45
      refine (same0 HJ.out.rd HJ.out.far HB.out (by omega)).mono ?_
      intro e w1 hpost
      obtain ⟨hb1, hp⟩ := hpost
      by_cases hlt : 3 < bs.length
      case neg =>
        rw [if_neg hlt] at hp hrr
        obtain ⟨hr1, rfl⟩ := hp
        have E : T = .inl (181, 3) := by rw [← HT.out]; unfold planR; rw [hrr]; rfl
        have EC : planC bs = 2 * ((3 : Nat) : Int) := by unfold planC; rw [hrr]
        exact ⟨rfl, HJ.out.but.trans hb1, by rw [E]; exact ⟨rfl, by rw [EC]; exact hr1⟩⟩
      rw [if_pos hlt] at hp hrr
      obtain ⟨hr1, hp⟩ := hp
      by_cases hc : bs.getD 3 0 = 84
      case neg =>
        rw [if_neg hc] at hp hrr
        subst hp
        have E : T = .inl (182, 3 + 1) := by rw [← HT.out]; unfold planR; rw [hrr]; rfl
        have EC : planC bs = 2 * ((3 + 1 : Nat) : Int) := by unfold planC; rw [hrr]
        exact ⟨rfl, HJ.out.but.trans hb1, by rw [E]; exact ⟨rfl, by rw [EC]; exact hr1⟩⟩
      rw [if_pos hc] at hp hrr
      subst hp
      have HN := Lib.hid (show HeadSt g A bs cp w rb t2 hb (3 + 1) w1 from ⟨hr1, HJ.out.far.but hb1, HJ.out.but.trans hb1, (hb1.block rb (lt_of_block HJ.out.rbx) (by show ¬ rb = g; omega)).trans HJ.out.rbx, (hb1.block t2 (lt_of_block HJ.out.res) (by show ¬ t2 = g; omega)).trans HJ.out.res, (hb1.block hb (lt_of_block HJ.out.head) (by show ¬ hb = g; omega)).trans HJ.out.head⟩)
      have HRN := Lib.hid hrr.symm
      clear hb1 hr1 hrr hc qh
      simp only []
      go_wp2_with fail
      go_roundg (5 - (3 + 1))
      case measure => rw [HGK.out]; decide
      case rel => exact ⟨3 + 1, rfl, by decide, by go_num, hlt, HN.out, HRN.out⟩
    · have qh : wr.cell? ⟨hb, 4, none⟩ = some (.int .u8 1) := blkcell HJ.out.head 4 (by simp)
      have hrr : headR bs headL 0 = if 4 < bs.length then (if bs.getD 4 0 = 1 then headR bs (headL.drop (4 + 1)) (4 + 1) else .inl (182, 4 + 1)) else .inl (181, 4) := HRR.out.symm
      go_wp2_with fail
      go_at_call 45
      refine (same0 HJ.out.rd HJ.out.far HB.out (by omega)).mono ?_
      intro e w1 hpost
      obtain ⟨hb1, hp⟩ := hpost
      by_cases hlt : 4 < bs.length
      case neg =>
        rw [if_neg hlt] at hp hrr
        obtain ⟨hr1, rfl⟩ := hp
        have E : T = .inl (181, 4) := by rw [← HT.out]; unfold planR; rw [hrr]; rfl
        have EC : planC bs = 2 * ((4 : Nat) : Int) := by unfold planC; rw [hrr]
        exact ⟨rfl, HJ.out.but.trans hb1, by rw [E]; exact ⟨rfl, by rw [EC]; exact hr1⟩⟩
      rw [if_pos hlt] at hp hrr
      obtain ⟨hr1, hp⟩ := hp
      by_cases hc : bs.getD 4 0 = 1
      case neg =>
        rw [if_neg hc] at hp hrr
        subst hp
        have E : T = .inl (182, 4 + 1) := by rw [← HT.out]; unfold planR; rw [hrr]; rfl
        have EC : planC bs = 2 * ((4 + 1 : Nat) : Int) := by unfold planC; rw [hrr]
        exact ⟨rfl, HJ.out.but.trans hb1, by rw [E]; exact ⟨rfl, by rw [EC]; exact hr1⟩⟩
      rw [if_pos hc] at hp hrr
      subst hp
      have HN := Lib.hid (show HeadSt g A bs cp w rb t2 hb (4 + 1) w1 from ⟨hr1, HJ.out.far.but hb1, HJ.out.but.trans hb1, (hb1.block rb (lt_of_block HJ.out.rbx) (by show ¬ rb = g; omega)).trans HJ.out.rbx, (hb1.block t2 (lt_of_block HJ.out.res) (by show ¬ t2 = g; omega)).trans HJ.out.res, (hb1.block hb (lt_of_block HJ.out.head) (by show ¬ hb = g; omega)).trans HJ.out.head⟩)
      have HRN := Lib.hid hrr.symm
      clear hb1 hr1 hrr hc qh
      simp only []
      go_wp2_with fail
      go_roundg (5 - (4 + 1))
      case measure => rw [HGK.out]; decide
      case rel => exact ⟨4 + 1, rfl, by decide, by go_num, hlt, HN.out, HRN.out⟩
    · have hne : 0 < bs.length := by omega
      have HBA := Lib.hid (show Base A bs cp 5 from ⟨HB.out, by omega, HSP.out, hcp, hcp2, hne⟩)
      have HRD := Lib.hid (show Rdr g A bs cp 5 5 wr from ⟨HJ.out.rd, HJ.out.far, hkl⟩)
      have hTT : T = rbind (rowsR bs (textR bs) 5) fun ts a1 => rbind (rowsR bs (jobR bs) a1) fun js a2 => if a2 = bs.length then .inr ((ts, js), a2) else .inl (182, a2) := by
        rw [← HT.out]
        unfold planR
        rw [← HRR.out]
        rfl
      have hTC : planC bs = endC T := by
        unfold planC
        rw [← HRR.out, ← HT.out]
        rfl
      have HTT := Lib.hid hTT
      have HTC := Lib.hid hTC
      clear hTT hTC
      obtain ⟨o, ho⟩ : ∃ x, wr.heap.size = x := ⟨_, rfl⟩
      have q1 : ∀ o1, (wr.alloc o1).cell? ⟨rb, 0, none⟩ = some (.pointer (some ⟨g, 0, none⟩)) := fun o1 => ((But.refl No wr).alloc o1).cell_some qrb (fun c => c)
      have hhl := lt_of_block HJ.out.head
      have hbs := HJ.out.but.size
      have hor : ¬ wr.heap.size = rb := by omega
      have hot : ¬ wr.heap.size = t2 := by omega
      clear ho
      go_wp2_with fail
      go_at_call 46
      refine (rowsPlanT (w0 := w) (HRD.out.alloc _) HBA.out HAO.out (HJ.out.but.alloc _) hgl (doneResQ (by decide) (by omega) (by omega)) (blkold HJ.out.res _) (blkold HJ.out.rbx _) (heap_alloc_new wr _) (by simp) (by simp) (by omega) (by omega) (by omega)).mono ?_
      intro e w3 hpost
      obtain ⟨r1, hr1⟩ : ∃ r, rowsR bs (textR bs) 5 = r := ⟨_, rfl⟩
      rw [hr1] at hpost
      rcases r1 with ⟨c, a'⟩ | ⟨ts, a3⟩
      · obtain ⟨rfl, hr, hb⟩ := hpost
        have E : T = .inl (c, a') := by rw [HTT.out, hr1]; rfl
        exact ⟨rfl, hb, by rw [HTC.out, E]; exact ⟨rfl, hr⟩⟩
      obtain ⟨rfl, hbi⟩ := hpost
      obtain ⟨v1, lv1, hbox, hown, hlv, hlq, hD⟩ := hbi.box
      subst hlq
      obtain ⟨A1, n1, c1, hv⟩ : ∃ A n c, v1 = Value.slice A n c := (by obtain ⟨A, c, h⟩ := hown.slice; exact ⟨A, _, c, h⟩)
      subst hv
      have HR1 := Lib.hid hr1
      have q3 : w3.cell? ⟨rb, 0, none⟩ = some (.pointer (some ⟨g, 0, none⟩)) := blkcell hbi.rbx 0 (by simp)
      have HBI := Lib.hid hbi
      have HOWN := Lib.hid hown
      have HD := Lib.hid hD
      have HBOX := Lib.hid hbox
      clear hbi hown hD hbox hlv hr1 q1
      simp only []
      go_wp2_with fail
      go_at_call 46
      refine (rowsPlanJ HBI.out.rdr HBA.out HAO.out HBI.out.but hgl ((doneResQ (by decide) (by omega) (by omega)).and (doneOwnQ (by decide) (by decide) hgl)) ⟨HD.out, HOWN.out⟩ HBI.out.rbx HBOX.out (by simp) (by simp) (by omega) (by omega) (by omega)).mono ?_
      intro e w4 hpost
      obtain ⟨r2, hr2⟩ : ∃ r, rowsR bs (jobR bs) a3 = r := ⟨_, rfl⟩
      rw [hr2] at hpost
      rcases r2 with ⟨c, a'⟩ | ⟨js, a4⟩
      · obtain ⟨rfl, hr, hb⟩ := hpost
        have E : T = .inl (c, a') := by rw [HTT.out, HR1.out]; show rbind (rowsR bs (jobR bs) a3) _ = _; rw [hr2]; rfl
        exact ⟨rfl, hb, by rw [HTC.out, E]; exact ⟨rfl, hr⟩⟩
      obtain ⟨rfl, hbi⟩ := hpost
      have hTF : T = if a4 = bs.length then .inr ((lv1, js), a4) else .inl (182, a4) := by rw [HTT.out, HR1.out]; show rbind (rowsR bs (jobR bs) a3) _ = _; rw [hr2]; rfl
      obtain ⟨v2, lv2, hbox2, hown2, hlv2, hjd, ⟨ht3, hownT⟩⟩ := hbi.box
      obtain ⟨A2, n2, c2, hv⟩ : ∃ A n c, v2 = Value.slice A n c := (by obtain ⟨A, c, h⟩ := hown2.slice; exact ⟨A, _, c, h⟩)
      subst hv
      simp only [List.setIfInBounds_toArray, List.set_cons_zero, List.set_cons_succ] at hbox2
      have q4 : w4.cell? ⟨rb, 0, none⟩ = some (.pointer (some ⟨g, 0, none⟩)) := blkcell hbi.rbx 0 (by simp)
      have g0 : w4.cell? ⟨g, 0, none⟩ = some (.slice A bs.length cp) := blkcell hbi.rdr.rd 0 (by simp)
      have g1 : w4.cell? ⟨g, 1, none⟩ = some (.int .i64 (a4 : Int)) := blkcell hbi.rdr.rd 1 (by simp)
      have y0 : w4.cell? ⟨wr.heap.size, 0, none⟩ = some (.slice A1 n1 c1) := blkcell hbox2 0 (by simp)
      have y1 : w4.cell? ⟨wr.heap.size, 1, none⟩ = some (.slice A2 n2 c2) := blkcell hbox2 1 (by simp)
      have z0 : w4.cell? ⟨t2, 0, none⟩ = some (.slice none 0 0) := blkcell ht3 0 (by simp)
      have z1 : w4.cell? ⟨t2, 1, none⟩ = some (.slice none 0 0) := blkcell ht3 1 (by simp)
      have zf : ∀ i, w4.frozen? ⟨t2, i, none⟩ = false := blkfree ht3
      have HT3 := Lib.hid ht3
      have HBI2 := Lib.hid hbi
      have HO2 := Lib.hid hown2
      have HOT := Lib.hid hownT
      have HJD := Lib.hid hjd
      have HLV2 := Lib.hid hlv2
      clear hbox2 ht3 hbi hown2 hownT hjd hlv2 hr2 q3
      simp only []
      by_cases hae : a4 = bs.length
      case neg =>
        have E := Lib.hid (show T = .inl (182, a4) from by rw [hTF, if_neg hae])
        have hd : ((a4 : Int) == (bs.length : Int)) = false := by simpa using (fun h : (a4 : Int) = (bs.length : Int) => hae (by omega))
        clear hTF
        go_wp2_with fail
        refine wp_region_held_drew (S := fun w' => w'.cell? ⟨rb, 0, none⟩ = some (.pointer (some ⟨g, 0, none⟩)) ∧ w'.cell? ⟨g, 0, none⟩ = some (.slice A bs.length cp) ∧ w'.cell? ⟨g, 1, none⟩ = some (.int .i64 (a4 : Int))) (by kernel_rfl) ⟨q4, g0, g1⟩ (fun hS => ?_)
        refine takeE 0 (some 22) rfl rfl (fun w ⟨e0, e1, e2⟩ => by go_simp <;> (with_reducible rfl)) hS ?_
        simp only [putS]
        refine takeE 1 (some 23) rfl rfl (fun w ⟨e0, e1, e2⟩ => by go_simp <;> (with_reducible rfl)) hS ?_
        simp only [putS]
        refine takeE 2 (some 24) rfl rfl (fun w ⟨e0, e1, e2⟩ => by go_simp <;> (with_reducible rfl)) hS ?_
        simp only [putS]
        refine takeE 3 (some 25) rfl rfl (fun w ⟨e0, e1, e2⟩ => by go_simp <;> (with_reducible rfl)) hS ?_
        simp only [putS]
        refine takeE 4 (some 26) rfl rfl (fun w ⟨e0, e1, e2⟩ => by go_simp <;> (with_reducible rfl)) hS ?_
        simp only [putS]
        refine takeE 5 (some 27) rfl rfl (fun w ⟨e0, e1, e2⟩ => by go_simp <;> (with_reducible rfl)) hS ?_
        simp only [putS]
        refine takeE 6 (some 28) rfl rfl (fun w ⟨e0, e1, e2⟩ => by go_simp <;> (with_reducible rfl)) hS ?_
        simp only [putS]
        refine takeE 7 (some 29) rfl rfl (fun w ⟨e0, e1, e2⟩ => by go_simp <;> (with_reducible rfl)) hS ?_
        simp only [putS]
        refine takeE 8 (some 30) rfl rfl (fun w ⟨e0, e1, e2⟩ => by go_simp <;> (with_reducible rfl)) hS ?_
        simp only [putS]
        refine takeE 9 (some 31) rfl rfl (fun w ⟨e0, e1, e2⟩ => by go_simp <;> (with_reducible rfl)) hS ?_
        simp only [putS]
        refine wpAnyH_ready (rs := [10]) (by kernel_rfl) (by simp) (AllReadyH.cons rfl (fun K hK => ?_) AllReadyH.nil)
        rw [if_pos (by kernel_rfl)]
        go_simp
        go_at_call 51
        refine (must_no 182 _).mono ?_
        rintro e w1 ⟨rfl, rfl⟩
        exact ⟨rfl, (HBI2.out.but).drew, by rw [HTC.out, E.out]; exact ⟨rfl, HBI2.out.rdr.rd⟩⟩
      have E := Lib.hid (show T = .inr ((lv1, js), a4) from by rw [hTF, if_pos hae])
      have hd : ((a4 : Int) == (bs.length : Int)) = true := beq_iff_eq.2 (by omega)
      clear hTF
      go_wp2_with fail
      go_quiet ((go_at_call 51; exact Calls.quiet_of (must_okq 182 _)))
      go_wp2_with fail
      have hfin := blkset (blkset HT3.out 0 (.slice A1 n1 c1)) 1 (.slice A2 n2 c2)
      simp only [List.setIfInBounds_toArray, List.set_cons_zero, List.set_cons_succ] at hfin
      have hB1 := ((But.refl (fun k => k = t2) w4).setCell (p := ⟨t2, 0, none⟩) (.inl rfl) (.slice A1 n1 c1)).setCell (p := ⟨t2, 1, none⟩) (.inl rfl) (.slice A2 n2 c2)
      refine bodyPost_ret (results_cell_row rfl _ _ t2 25 #[.slice A1 n1 c1, .slice A2 n2 c2] (0, 0) _ rfl hfin Try.underlying25 rfl (by kernel_rfl)) rfl ?_
      refine ⟨HBI2.out.but.trans_ (hB1.drewN nq) (fun k hk (e : k = t2) => by omega), ?_⟩
      rw [HTC.out, E.out]
      refine ⟨⟨A1, n1, c1, A2, n2, c2, rfl, own_but1 HOT.out (hB1.drewN nq) HT3.out (by decide), lv2, own_but1 HO2.out (hB1.drewN nq) HT3.out (by decide), HLV2.out, ?_⟩, (hB1.block g (lt_of_block HBI2.out.rdr.rd) (fun (e : g = t2) => by omega)).trans HBI2.out.rdr.rd⟩
      refine All2.imp (R := fun x x' => JobLies (wr.heap.size + 1) x x' w4) (fun x x' hh => ?_) HJD.out
      obtain ⟨lv, i1, i2, i3⟩ := hh.rules
      exact ⟨hh.one, hh.allow, ⟨lv, own_mono (own_but1 i1 (hB1.drewN nq) HT3.out (by decide)) (by omega), i2, All2.imp (fun a b hh => ⟨own_mono (own_but1 hh.1 (hB1.drewN nq) HT3.out (by decide)) (by omega), hh.2⟩) i3⟩, own_mono (own_but1 hh.vars (hB1.drewN nq) HT3.out (by decide)) (by omega), own_mono (own_but1 hh.preds (hB1.drewN nq) HT3.out (by decide)) (by omega)⟩
end Go.Proofs.Ytoaopjbgaehpfaa.G
end
section
/- wire's reader: what catches a stop. -/
namespace Go.Proofs.Ytoaopjbgaehpfaa.G
open Go.RowKit
attribute [local simp, local go_sem] alloc_drewN setCell_drewN
set_option linter.unusedVariables false
set_option linter.unusedSimpArgs false
set_option maxRecDepth 100000
theorem assertStop (c : Int) (w : World) : (Instr.typeAssert (.iface 83 (.agg #[.int .i64 c])) 20 83 true).run Try.prog w = .ok (.tuple #[.agg #[.int .i64 c], .bool true]) w := by kernel_rfl
set_option maxHeartbeats 4000000 in
theorem catch_idle (p q : Addr) (w : World) :
    CallsD Try.prog 44 #[.pointer (some p), .pointer (some q)] .returning w fun e u' w' => e = .returned (.tuple #[]) ∧ u' = .returning ∧ w' = w := by
  refine callsD_of_wpS Try.func44 rfl fun c₀ cs hu => ?_
  simp only [Try.ntmps44, List.size_toArray, List.length_cons, List.length_nil, Nat.reduceAdd, Nat.reduceSub, Array.replicate_succ, Array.replicate_zero, List.push_toArray, List.append_toArray, List.nil_append, List.cons_append]
  apply wpS_seq
  apply wpS_region
  simp [wpOpsS, go_sem, recoverD, hu, Exit.thenS]
  refine wpS_of_wp ?_
  go_wp2_with fail
  cases c₀
  simp_all [bodyPostS, results, Try.results44]
set_option maxHeartbeats 4000000 in
theorem catch_stop (b1 b2 : Nat) (c : Int) (older : List PanicEntry) (w : World) {s1 s2 : Value} {e0 : Value} (h1 : w.heap[b1]? = some (.cells #[s1, s2] 25 (0, 0))) (h2 : w.heap[b2]? = some (.cells #[e0] 27 (0, 0))) :
    CallsD Try.prog 44 #[.pointer (some ⟨b1, 0, none⟩), .pointer (some ⟨b2, 0, none⟩)] (.panicking (stopE c :: older)) w fun e u' w' => e = .returned (.tuple #[]) ∧ u' = .panicking ({ stopE c with recovered := true } :: older) ∧ But (fun k => k = b1 ∨ k = b2) w w' ∧ w'.heap[b1]? = some (.cells #[.slice none 0 0, .slice none 0 0] 25 (0, 0)) ∧ w'.heap[b2]? = some (.cells #[.int .i64 c] 27 (0, 0)) := by
  have p0 : w.cell? ⟨b1, 0, none⟩ = some s1 := blkcell h1 0 (by simp)
  have p1 : w.cell? ⟨b1, 1, none⟩ = some s2 := blkcell h1 1 (by simp)
  have pf : ∀ i, w.frozen? ⟨b1, i, none⟩ = false := blkfree h1
  have e0' : w.cell? ⟨b2, 0, none⟩ = some e0 := blkcell h2 0 (by simp)
  have ef : ∀ i, w.frozen? ⟨b2, i, none⟩ = false := blkfree h2
  have hb1 := lt_of_block h1
  have hb2 := lt_of_block h2
  have hn1 : ¬ w.heap.size = b1 := by omega
  have hn3 : ¬ b1 = w.heap.size := by omega
  have hn4 : ¬ b2 = w.heap.size := by omega
  have h12 : ¬ b1 = b2 := by
    intro e
    rw [e, h2] at h1
    injection h1 with h1
    injection h1 with _ h1
    exact absurd h1 (by decide)
  have h21 : ¬ b2 = b1 := fun e => h12 e.symm
  have hn2 : ¬ w.heap.size = b2 := by omega
  have H1 := Lib.hid h1
  have H2 := Lib.hid h2
  have hta := assertStop c
  clear h1 h2
  unfold stopE
  refine callsD_of_wpS Try.func44 rfl fun c₀ cs hu => ?_
  simp only [Try.ntmps44, List.size_toArray, List.length_cons, List.length_nil, Nat.reduceAdd, Nat.reduceSub, Array.replicate_succ, Array.replicate_zero, List.push_toArray, List.append_toArray, List.nil_append, List.cons_append]
  apply wpS_seq
  apply wpS_region
  simp [wpOpsS, go_sem, recoverD, hu, Exit.thenS]
  refine wpS_of_wp ?_
  go_wp2_with fail
  refine wp_region_held_drew (S := fun w' => w'.cell? ⟨w.heap.size, 0, none⟩ = some (.int .i64 c)) (by kernel_rfl) (by go_simp) (fun hS => ?_)
  refine takeE 0 (some 16) rfl rfl (fun w e1 => by go_simp <;> (with_reducible rfl)) hS ?_
  simp only [putS]
  refine takeE 1 (some 17) rfl rfl (fun w e1 => by go_simp <;> (with_reducible rfl)) hS ?_
  simp only [putS]
  refine takeE 2 (some 18) rfl rfl (fun w e1 => by go_simp <;> (with_reducible rfl)) hS ?_
  simp only [putS]
  refine wpAnyH_ready (rs := [3]) (by kernel_rfl) (by simp) (AllReadyH.cons rfl (fun K3 hK3 => ?_) AllReadyH.nil)
  rw [if_pos (by kernel_rfl)]
  go_simp
  refine hK3.out _ _ (by go_simp) (fun hS => ?_)
  try simp only [putS, List.getElem_toArray, List.getElem_cons_zero, List.getElem_cons_succ]
  refine wpAnyH_ready (rs := [4]) (by kernel_rfl) (by simp) (AllReadyH.cons rfl (fun K4 hK4 => ?_) AllReadyH.nil)
  rw [if_pos (by kernel_rfl)]
  go_simp
  refine hK4.out _ _ (by go_simp) (fun hS => ?_)
  try simp only [putS, List.getElem_toArray, List.getElem_cons_zero, List.getElem_cons_succ]
  refine wpAnyH_done (by kernel_rfl) ?_ _
  have hfin : But (fun k => k = b1 ∨ k = b2) w ((((w.setCell ⟨b1, 0, none⟩ (.slice none 0 0)).setCell ⟨b1, 1, none⟩ (.slice none 0 0)).setCell ⟨b2, 0, none⟩ (.int .i64 c)).alloc (.cells #[.int .i64 c] 83)).drew :=
    ((((((But.refl _ w).setCell (p := ⟨b1, 0, none⟩) (.inl (.inl rfl)) _).setCell (p := ⟨b1, 1, none⟩) (.inl (.inl rfl)) _).setCell (p := ⟨b2, 0, none⟩) (.inl (.inr rfl)) _).alloc _).drew)
  have hx1 := blkold (blkfar (blkset (blkset H1.out 0 (.slice none 0 0)) 1 (.slice none 0 0)) (p := ⟨b2, 0, none⟩) h12 (.int .i64 c)) (.cells #[.int .i64 c] 83)
  have hx2 := blkold (blkset (blkfar (blkfar H2.out (p := ⟨b1, 0, none⟩) h21 (.slice none 0 0)) (p := ⟨b1, 1, none⟩) h21 (.slice none 0 0)) 0 (.int .i64 c)) (.cells #[.int .i64 c] 83)
  simp only [List.setIfInBounds_toArray, List.set_cons_zero, List.set_cons_succ] at hx1 hx2
  cases c₀
  simp only [] at hu
  subst hu
  exact ⟨rfl, _, rfl, _, results_none rfl _ _ _, rfl, rfl, hfin, hx1, hx2⟩
end Go.Proofs.Ytoaopjbgaehpfaa.G
end
section
/- wire's reader: a whole plan, or why not. -/
namespace Go.Proofs.Ytoaopjbgaehpfaa.G
open Go.RowKit
attribute [local simp, local go_sem] alloc_drewN setCell_drewN
set_option linter.unusedVariables false
set_option linter.unusedSimpArgs false
set_option maxRecDepth 100000
theorem JobLies.move {base : Nat} {x : JobP} {x' : JobV} {W W' : World} {S : Nat → Prop} (h : JobLies base x x' W) (hb : But S W W') (hS : ∀ k, base ≤ k → ¬ S k) : JobLies base x x' W' := by
  obtain ⟨lv, i1, i2, i3⟩ := h.rules
  exact ⟨h.one, h.allow, ⟨lv, i1.but hb (fun k h1 _ => hS k h1), i2, All2.imp (fun a b hh => ⟨hh.1.but hb (fun k h1 _ => hS k h1), hh.2⟩) i3⟩, h.vars.but hb (fun k h1 _ => hS k h1), h.preds.but hb (fun k h1 _ => hS k h1)⟩
theorem PlanLies.move {base base' : Nat} {At : Option Addr} {nt ct : Nat} {Aj : Option Addr} {nj cj : Nat} {ts : List ByteArray} {js : List JobP} {W W' : World} {S : Nat → Prop} (h : PlanLies base At nt ct Aj nj cj ts js W) (hb : But S W W') (hS : ∀ k, base ≤ k → ¬ S k) (hle : base' ≤ base) : PlanLies base' At nt ct Aj nj cj ts js W' := by
  obtain ⟨lv, i1, i2, i3⟩ := h.jobs
  exact ⟨own_mono (h.texts.but hb (fun k h1 _ => hS k h1)) hle, lv, own_mono (i1.but hb (fun k h1 _ => hS k h1)) hle, i2, All2.imp (R := fun x x' => JobLies base x x' W) (R' := fun x x' => JobLies base' x x' W') (fun a b hh => (JobLies.move hh hb hS).mono hle) i3⟩
def WholePost (g : Nat) (A : Option Addr) (bs : List Int) (cp : Nat) (w : World) (r : RR (List ByteArray × List JobP)) (e : Ending) (w' : World) : Prop :=
  But (One g) w w' ∧ match r with
  | .inl (c, a) => e = .returned (.tuple #[.agg #[.slice none 0 0, .slice none 0 0], .int .i64 c]) ∧ RdIn g A bs.length cp (a : Int) (planC bs) w'
  | .inr ((ts, js), a) => (∃ At nt ct Aj nj cj, e = .returned (.tuple #[.agg #[.slice At nt ct, .slice Aj nj cj], .int .i64 0]) ∧ PlanLies w.heap.size At nt ct Aj nj cj ts js w') ∧ RdIn g A bs.length cp (a : Int) (planC bs) w'
set_option maxHeartbeats 4000000 in
theorem whole0 {g : Nat} {A : Option Addr} {cp : Nat} {bs : List Int} {w : World} (h : RdIn g A bs.length cp 0 0 w) (hf : BytesFar w g A bs) (hB : Bytes bs) (hsp : ∀ ad, A = some ad → ad.spot = none) (hcp : bs.length ≤ cp) (hcp2 : cp ≤ 9223372036854775807) (hAo : ∀ ad, A = some ad → ad.block < w.heap.size) :
    Calls Try.prog 36 #[.pointer (some ⟨g, 0, none⟩), .func (.func 37) #[.pointer (some ⟨g, 0, none⟩)] #[]] w (WholePost g A bs cp w (planR bs)) := by
  have hgl := lt_of_block h
  have hmf : ∀ (fn : Fn) (first cap : Array Value) (w : World), (Instr.makeFunc fn first cap).run Try.prog w = .ok (.func fn first cap) w := fun _ _ _ _ => rfl
  have HP := Lib.hid (show Calls Try.prog 37 #[.pointer (some ⟨g, 0, none⟩)] ((w.alloc (.cells #[.slice none 0 0, .slice none 0 0] 25)).alloc (.cells #[.int .i64 0] 27)) (PlanPost g A bs cp ((w.alloc (.cells #[.slice none 0 0, .slice none 0 0] 25)).alloc (.cells #[.int .i64 0] 27)) (planR bs)) from
    readPlan0 (blkold (blkold h _) _) (fun i hi => by obtain ⟨ad, h1, h2, h3⟩ := hf i hi; exact ⟨ad, h1, (((But.refl No w).alloc _).alloc _).cell_some h2 (fun c => c), h3⟩) hB hsp hcp hcp2 (fun ad e => by have := hAo ad e; simp; omega))
  obtain ⟨T, hT⟩ : ∃ T, planR bs = T := ⟨_, rfl⟩
  rw [hT] at HP ⊢
  clear h hf hB hsp hAo hT
  rcases T with ⟨c, a⟩ | ⟨⟨ts, js⟩, a⟩
  · go_enter_defers Try.func36, Try.ntmps36
    go_wp2_with (first | (go_at_call 37; refine HP.out.mono ?_; rintro e w1 ⟨hb1, rfl, hr1⟩; (have hq1 := (hb1.block w.heap.size (by simp; omega) (by show ¬ w.heap.size = g; omega)).trans (blkold (heap_alloc_new w _) _)); (have hq2 := (hb1.block (w.heap.size + 1) (by simp) (by show ¬ w.heap.size + 1 = g; omega)).trans (heap_alloc2_newJ w _ _)); (have HQ1 := Lib.hid hq1); (have HQ2 := Lib.hid hq2); clear hq1 hq2; (have HB1 := Lib.hid hb1); (have HR1 := Lib.hid hr1); clear hb1 hr1))
    refine leaves_cons (f := 44) (args := #[.pointer (some ⟨w.heap.size, 0, none⟩), .pointer (some ⟨w.heap.size + 1, 0, none⟩)]) (by simp) (by simp [go_sem]) ?_
    refine (catch_stop w.heap.size (w.heap.size + 1) c [] _ HQ1.out HQ2.out).mono ?_
    rintro e u' w2 ⟨rfl, rfl, hb2, hx1, hx2⟩
    have p0 : w2.cell? ⟨w.heap.size, 0, none⟩ = some (.slice none 0 0) := blkcell hx1 0 (by simp)
    have p1 : w2.cell? ⟨w.heap.size, 1, none⟩ = some (.slice none 0 0) := blkcell hx1 1 (by simp)
    have p2 : w2.cell? ⟨w.heap.size + 1, 0, none⟩ = some (.int .i64 c) := blkcell hx2 0 (by simp)
    have hfin : WholePost g A bs cp w (.inl (c, a)) (.returned (.tuple #[.agg #[.slice none 0 0, .slice none 0 0], .int .i64 c])) w2 :=
      ⟨(((But.refl (One g) w).alloc _).alloc _ |>.trans HB1.out).trans_ hb2 (fun k hk h => by rcases h with h | h <;> omega), rfl, (hb2.block g (lt_of_block HR1.out) (by rintro (h | h) <;> omega)).trans HR1.out⟩
    simp [Leaves, settle, results, Try.results36, go_sem, stopE, p0, p1, p2]
    exact hfin
  · go_enter_defers Try.func36, Try.ntmps36
    go_wp2_with (first | (go_at_call 37; refine HP.out.mono ?_; rintro e w1 ⟨hb1, ⟨At, nt, ct, Aj, nj, cj, rfl, hl1⟩, hr1⟩; (have hq1 := (hb1.block w.heap.size (by simp; omega) (by show ¬ w.heap.size = g; omega)).trans (blkold (heap_alloc_new w _) _)); (have hq2 := (hb1.block (w.heap.size + 1) (by simp) (by show ¬ w.heap.size + 1 = g; omega)).trans (heap_alloc2_newJ w _ _)); (have p0 : w1.cell? ⟨w.heap.size, 0, none⟩ = some (.slice none 0 0) := blkcell hq1 0 (by simp)); (have p1 : w1.cell? ⟨w.heap.size, 1, none⟩ = some (.slice none 0 0) := blkcell hq1 1 (by simp)); (have pf : ∀ i, w1.frozen? ⟨w.heap.size, i, none⟩ = false := blkfree hq1); (have e0' : w1.cell? ⟨w.heap.size + 1, 0, none⟩ = some (.int .i64 0) := blkcell hq2 0 (by simp)); (have ef : ∀ i, w1.frozen? ⟨w.heap.size + 1, i, none⟩ = false := blkfree hq2); (have HQ1 := Lib.hid hq1); (have HQ2 := Lib.hid hq2); (have HB1 := Lib.hid hb1); (have HL1 := Lib.hid hl1); (have HR1 := Lib.hid hr1); clear hb1 hr1 hl1 hq1 hq2))
    refine leaves_cons (f := 44) (args := #[.pointer (some ⟨w.heap.size, 0, none⟩), .pointer (some ⟨w.heap.size + 1, 0, none⟩)]) (by simp) (by simp [go_sem]) ?_
    refine (catch_idle ⟨w.heap.size, 0, none⟩ ⟨w.heap.size + 1, 0, none⟩ _).mono ?_
    rintro e u' w2 ⟨rfl, rfl, rfl⟩
    simp [Leaves, settle, results, Try.results36, go_sem, p0, p1, e0']
    have hbz := (((But.refl (fun k => k < w.heap.size + 1 + 1) w1).setCell (p := ⟨w.heap.size, 0, none⟩) (.inl (by show w.heap.size < w.heap.size + 1 + 1; omega)) (.slice At nt ct)).setCell (p := ⟨w.heap.size, 1, none⟩) (.inl (by show w.heap.size < w.heap.size + 1 + 1; omega)) (.slice Aj nj cj)).setCell (p := ⟨w.heap.size + 1, 0, none⟩) (.inl (by show w.heap.size + 1 < w.heap.size + 1 + 1; omega)) (.int .i64 0)
    have hbo : But (One g) w w1 := ((But.refl (One g) w).alloc _).alloc _ |>.trans HB1.out
    refine ⟨((hbo.setCell (p := ⟨w.heap.size, 0, none⟩) (.inr (Nat.le_refl _)) _).setCell (p := ⟨w.heap.size, 1, none⟩) (.inr (Nat.le_refl _)) _).setCell (p := ⟨w.heap.size + 1, 0, none⟩) (.inr (Nat.le_succ _)) _, ⟨At, nt, ct, Aj, nj, cj, rfl, HL1.out.move hbz (fun k hk h => by simp at hk; omega) (by simp; omega)⟩, ?_⟩
    exact blkfar (blkfar (blkfar HR1.out (p := ⟨w.heap.size, 0, none⟩) (by show g ≠ w.heap.size; omega) _) (p := ⟨w.heap.size, 1, none⟩) (by show g ≠ w.heap.size; omega) _) (p := ⟨w.heap.size + 1, 0, none⟩) (by show g ≠ w.heap.size + 1; omega) _
end Go.Proofs.Ytoaopjbgaehpfaa.G
end
section
/- wire's reader: what comparing the texts counts. -/
namespace Go.Proofs.Ytoaopjbgaehpfaa.G
open Go.RowKit
attribute [local simp, local go_sem] alloc_drewN setCell_drewN
set_option linter.unusedVariables false
set_option linter.unusedSimpArgs false
set_option maxRecDepth 100000
/-- The bytes compared, up to the k-th text. -/
def riseTo (ts : List ByteArray) : Nat → Int
  | 0 => 0
  | k + 1 => riseTo ts k + (if k = 0 then 0 else min ((ts.getD (k - 1) .empty).size : Int) ((ts.getD k .empty).size : Int))
theorem riseTo_mono (ts : List ByteArray) (k : Nat) : 0 ≤ riseTo ts k ∧ riseTo ts k ≤ riseTo ts (k + 1) := by
  induction k with
  | zero => exact ⟨Int.le_refl _, by simp [riseTo]⟩
  | succ k ih =>
    refine ⟨by omega, ?_⟩
    show riseTo ts (k + 1) ≤ riseTo ts (k + 1) + (if k + 1 = 0 then 0 else min _ _)
    rw [if_neg (by omega)]
    omega
theorem riseTo_le (ts : List ByteArray) (k : Nat) : ∀ n, riseTo ts k ≤ riseTo ts (k + n)
  | 0 => Int.le_refl _
  | n + 1 => Int.le_trans (riseTo_le ts k n) (riseTo_mono ts (k + n)).2
def RiseAt (g : Nat) (A : Option Addr) (n cp : Nat) (a : Int) (c0 : Int) (ts : List ByteArray) (w : World) (gk : Nat) (v : Value) (wr : World) : Prop :=
  ∃ k : Nat, gk = ts.length - (k - 1) ∧ 1 ≤ k ∧ (k ≤ ts.length ∨ k = 1) ∧ v = .int .i64 (k : Int) ∧ But (One g) w wr ∧ RdIn g A n cp a (c0 + riseTo ts k) wr
set_option maxHeartbeats 4000000 in
theorem rising0 {g : Nat} {A : Option Addr} {n cp : Nat} {a c0 : Int} {At : Option Addr} {ct : Nat} {ts : List ByteArray} {w : World} (h : RdIn g A n cp a c0 w) (hT : ∀ i (hi : i < ts.length), ∃ ad, At = some ad ∧ w.cell? (ad.add i) = some (.string ts[i]) ∧ ad.block ≠ g)
    (hts : ∀ s ∈ ts, s.size ≤ 9223372036854775807) (htl : ts.length ≤ 1152921504606846975) (hc : 0 ≤ c0) (hs : c0 + riseTo ts ts.length ≤ 4611686018427387904) :
    Calls Try.prog 38 #[.pointer (some ⟨g, 0, none⟩), .slice At ts.length ct] w fun e w' => e = .returned (.tuple #[]) ∧ But (One g) w w' ∧ RdIn g A n cp a (c0 + riseTo ts ts.length) w' := by
  have H := Lib.hid h
  have HT := Lib.hid hT
  have HS := Lib.hid hts
  have h1 : riseTo ts 1 = 0 := by simp [riseTo]
  have H1 := Lib.hid h1
  clear h hT hts h1
  go_enter Try.func38, Try.ntmps38
  go_wp2_with fail
  go_loopg [4] ts.length (fun gk v wr => RiseAt g A n cp a c0 ts w gk v wr)
  case atStart => exact ⟨1, by omega, by decide, .inr rfl, rfl, But.refl _ _, by rw [H1.out, Int.add_zero]; exact H.out⟩
  case round =>
    obtain ⟨k, hgk, hk1, hk2, rfl, hb, hr⟩ := hrel
    have HGK := Lib.hid hgk
    have HB := Lib.hid hb
    have HR := Lib.hid hr
    by_cases hlt : k < ts.length
    · obtain ⟨ad, hA, k1, hn1⟩ := HT.out k hlt
      obtain ⟨ad2, hA2, k2, hn2⟩ := HT.out (k - 1) (by omega)
      cases hA
      cases hA2
      have hx1 := HS.out _ (List.getElem_mem hlt)
      have hx2 := HS.out _ (List.getElem_mem (show k - 1 < ts.length by omega))
      have hstep : riseTo ts (k + 1) = riseTo ts k + min ((ts[k - 1].size : Nat) : Int) ((ts[k].size : Nat) : Int) := by
        show riseTo ts k + (if k = 0 then 0 else min _ _) = _
        rw [if_neg (by omega), List.getD_eq_getElem?_getD, List.getElem?_eq_getElem (by omega), List.getD_eq_getElem?_getD, List.getElem?_eq_getElem hlt]
        rfl
      have hup := riseTo_le ts (k + 1) (ts.length - (k + 1))
      rw [show k + 1 + (ts.length - (k + 1)) = ts.length from by omega] at hup
      have hlo := (riseTo_mono ts k).1
      have e1 := hb.cell_some k1 (by rw [addr_blk]; exact hn1)
      have e2 := hb.cell_some k2 (by rw [addr_blk]; exact hn2)
      obtain ⟨x, hx⟩ : ∃ x, ts[k] = x := ⟨_, rfl⟩
      obtain ⟨y, hy⟩ : ∃ y, ts[k - 1] = y := ⟨_, rfl⟩
      rw [hx] at e1 hstep hx1
      rw [hy] at e2 hstep hx2
      obtain ⟨rk, hrk⟩ : ∃ x, riseTo ts k = x := ⟨_, rfl⟩
      obtain ⟨z, hz⟩ : ∃ z, c0 + rk = z := ⟨_, rfl⟩
      rw [hrk, hz] at HR
      have q2 : wr.cell? ⟨g, 2, none⟩ = some (.int .i64 z) := blkcell HR.out 2 (by simp)
      have qf : wr.frozen? ⟨g, 2, none⟩ = false := blkfree HR.out 2
      have HSTEP := Lib.hid (show c0 + riseTo ts (k + 1) = z + min ((y.size : Nat) : Int) ((x.size : Nat) : Int) from by rw [hstep, hrk]; omega)
      have hbnd : 0 ≤ z ∧ z + min ((y.size : Nat) : Int) ((x.size : Nat) : Int) ≤ 4611686018427387904 := by
        have := HSTEP.out
        omega
      clear hstep hup hlo hr hb k1 k2 hx hy hrk hz
      have hlt' : (k : Int) < (ts.length : Int) := by omega
      have dl : decide ((k : Int) < (ts.length : Int)) = true := decide_eq_true hlt'
      obtain ⟨m, rfl⟩ : ∃ m, k = m + 1 := ⟨k - 1, by omega⟩
      rw [Nat.add_sub_cancel] at e2
      have hw0 : IntKind.i64.wrap (m : Int) = (m : Int) := by rw [IntKind.wrap_i64]; omega
      have hw1 : (m : Int) < (ts.length : Int) := by omega
      have hw2 : (0 : Int) ≤ (m : Int) := by omega
      have hw3 : (0 : Int) ≤ (m : Int) + 1 := by omega
      obtain ⟨mn, hmn⟩ : ∃ v, min ((y.size : Nat) : Int) ((x.size : Nat) : Int) = v := ⟨_, rfl⟩
      have hif : (if x.size < y.size then ((x.size : Nat) : Int) else ((y.size : Nat) : Int)) = mn := by
        rw [← hmn]; split <;> omega
      rw [hmn] at hbnd
      have hmn0 : 0 ≤ mn := by omega
      have hwz : IntKind.i64.wrap (z + mn) = z + mn := by rw [IntKind.wrap_i64]; omega
      go_wp2_with fail
      refine wp_region_held_drew (S := fun w' => w'.cell? (ad.add m) = some (.string y) ∧ w'.cell? ⟨ad.block, ad.off + (m + 1), none⟩ = some (.string x)) (by kernel_rfl) ⟨by go_simp, by go_simp; exact e1⟩ (fun hS => ?_)
      refine takeE 0 (some 11) rfl rfl (fun w ⟨e2, e1⟩ => by go_simp <;> (with_reducible rfl)) hS ?_
      simp only [putS]
      refine takeE 1 (some 12) rfl rfl (fun w ⟨e2, e1⟩ => by go_simp <;> (with_reducible rfl)) hS ?_
      simp only [putS]
      refine takeE 2 (some 13) rfl rfl (fun w ⟨e2, e1⟩ => by go_simp <;> (with_reducible rfl)) hS ?_
      simp only [putS]
      refine takeE 4 (some 15) rfl rfl (fun w ⟨e2, e1⟩ => by go_simp <;> (with_reducible rfl)) hS ?_
      simp only [putS]
      refine takeE 5 (some 16) rfl rfl (fun w ⟨e2, e1⟩ => by go_simp <;> (with_reducible rfl)) hS ?_
      simp only [putS]
      refine takeE 6 (some 17) rfl rfl (fun w ⟨e2, e1⟩ => by go_simp <;> (with_reducible rfl)) hS ?_
      simp only [putS]
      refine takeE 7 (some 18) rfl rfl (fun w ⟨e2, e1⟩ => by go_simp <;> (with_reducible rfl)) hS ?_
      simp only [putS]
      refine takeE 8 (some 19) rfl rfl (fun w ⟨e2, e1⟩ => by go_simp <;> (with_reducible rfl)) hS ?_
      simp only [putS]
      refine takeE 9 (some 20) rfl rfl (fun w ⟨e2, e1⟩ => by go_simp <;> (with_reducible rfl)) hS ?_
      simp only [putS]
      refine takeE 10 (some 21) rfl rfl (fun w ⟨e2, e1⟩ => by go_simp <;> (with_reducible rfl)) hS ?_
      simp only [putS]
      refine takeE 11 (some 22) rfl rfl (fun w ⟨e2, e1⟩ => by go_simp <;> (with_reducible rfl)) hS ?_
      simp only [putS]
      refine takeE 12 (some 23) rfl rfl (fun w ⟨e2, e1⟩ => by go_simp <;> (with_reducible rfl)) hS ?_
      simp only [putS]
      refine takeE 13 (some 24) rfl rfl (fun w ⟨e2, e1⟩ => by go_simp <;> (with_reducible rfl)) hS ?_
      simp only [putS]
      refine takeE 14 (some 25) rfl rfl (fun w ⟨e2, e1⟩ => by go_simp <;> (with_reducible rfl)) hS ?_
      simp only [putS]
      refine takeE 15 (some 26) rfl rfl (fun w ⟨e2, e1⟩ => by go_simp <;> (with_reducible rfl)) hS ?_
      simp only [putS]
      refine wpAnyH_ready (rs := [3]) (by kernel_rfl) (by simp) (AllReadyH.cons rfl (fun K5 hK5 => ?_) AllReadyH.nil)
      rw [if_pos (by kernel_rfl)]
      go_simp
      refine hK5.out _ _ hS (fun hS => ?_)
      try simp only [putS, List.getElem_toArray, List.getElem_cons_zero, List.getElem_cons_succ]
      refine takeE 16 (some 27) rfl rfl (fun w ⟨e2, e1⟩ => by go_simp <;> (with_reducible rfl)) hS ?_
      simp only [putS]
      refine takeE 17 (some 28) rfl rfl (fun w ⟨e2, e1⟩ => by go_simp <;> (with_reducible rfl)) hS ?_
      simp only [putS]
      refine takeE 18 (some 29) rfl rfl (fun w ⟨e2, e1⟩ => by go_simp <;> (with_reducible rfl)) hS ?_
      simp only [putS]
      refine wpAnyH_ready (rs := [19]) (by kernel_rfl) (by simp) (AllReadyH.cons rfl (fun K6 hK6 => ?_) AllReadyH.nil)
      rw [if_pos (by kernel_rfl)]
      go_simp
      have hb2 := HB.out.set1 2 (.int .i64 (z + mn))
      have hS2 := (But.refl (One g) wr).set1 2 (.int .i64 (z + mn))
      have hF := blkset HR.out 2 (.int .i64 (z + mn))
      have d1 := hS2.cell_some e2 (by rw [addr_blk]; exact hn1)
      have d2 := hS2.cell_some e1 (by rw [addr_blk]; exact hn1)
      generalize hWS : wr.setCell ⟨g, 2, none⟩ (.int .i64 (z + mn)) = wS at *
      refine hK6.out _ _ ⟨by go_simp, by go_simp; exact d2⟩ (fun hS => ?_)
      try simp only [putS, List.getElem_toArray, List.getElem_cons_zero, List.getElem_cons_succ]
      clear hS2 d1 d2 e1 e2 hS
      refine wpAnyH_done (by kernel_rfl) ?_ _
      have hHB := Lib.hid hb2
      have hHF := Lib.hid hF
      clear hb2 hF hWS q2 qf
      go_wp2_with fail
      go_roundg (ts.length - (m + 1))
      case measure => have := HGK.out; omega
      case rel =>
        refine ⟨m + 2, by omega, by omega, by omega, ?_, hHB.out.drew, ?_⟩
        · first | rfl | (congr 1; omega)
        · have := HSTEP.out
          rw [this, hmn]
          exact hHF.out
    · have hkk : riseTo ts k = riseTo ts ts.length := by
        rcases hk2 with h | h
        · rw [show k = ts.length from by omega]
        · subst h
          have : ts.length = 0 ∨ ts.length = 1 := by omega
          rcases this with h | h <;> rw [h]
          simp [riseTo]
      rw [hkk] at HR
      have hlt' : ¬ (k : Int) < (ts.length : Int) := by omega
      clear hkk hr hb
      go_wp2_with fail
      go_end0
      exact ⟨rfl, HB.out, HR.out⟩
end Go.Proofs.Ytoaopjbgaehpfaa.G
end
section
/- wire's reader: what was read lies as a plan that comes in. -/
namespace Go.Proofs.Ytoaopjbgaehpfaa.G
open Go.RowKit
set_option linter.unusedVariables false
set_option linter.unusedSimpArgs false
set_option maxRecDepth 100000
theorem All2.at_ {α β : Type} {R : α → β → Prop} : ∀ {l : List α} {m : List β}, All2 R l m → ∀ i (hi : i < l.length), ∃ y, m[i]? = some y ∧ R l[i] y
  | a :: l, b :: m, hh, 0, _ => ⟨b, rfl, hh.1⟩
  | a :: l, b :: m, hh, i + 1, hi => by
    obtain ⟨y, h1, h2⟩ := All2.at_ hh.2 i (by simpa using hi)
    exact ⟨y, by simpa using h1, h2⟩
  | [], _, _, i, hi => absurd hi (Nat.not_lt_zero i)
  | _ :: _, [], hh, _, _ => hh.elim
theorem own_strs {W : World} {base n c : Nat} {A : Option Addr} {l : List ByteArray} (h : sgE.Own W base (.slice A n c) l) : n = l.length ∧ StrsIn W A l := by
  rcases h.form with ⟨hv, rfl⟩ | ⟨g, c', hv, _⟩
  · injection hv with h1 h2
    exact ⟨h2, fun i hi => absurd hi (Nat.not_lt_zero i)⟩
  · injection hv with h1 h2 h3
    subst h1 h2 h3
    refine ⟨rfl, fun i hi => ⟨_, rfl, ?_⟩⟩
    have := h.cell i l[i] (List.getElem?_eq_getElem hi) 0 (.string l[i]) rfl
    rw [addr_add]
    rw [show i * sgE.sz + 0 = 0 + i from by show i * 1 + 0 = 0 + i; omega] at this
    exact this
theorem own_ints {W : World} {base n c : Nat} {A : Option Addr} {l : List Int} (h : inE.Own W base (.slice A n c) l) : n = l.length ∧ IntsIn W A l := by
  rcases h.form with ⟨hv, rfl⟩ | ⟨g, c', hv, _⟩
  · injection hv with h1 h2
    exact ⟨h2, fun i hi => absurd hi (Nat.not_lt_zero i)⟩
  · injection hv with h1 h2 h3
    subst h1 h2 h3
    refine ⟨rfl, fun i hi => ⟨_, rfl, ?_⟩⟩
    have := h.cell i l[i] (List.getElem?_eq_getElem hi) 0 (.int .i64 l[i]) rfl
    rw [addr_add]
    rw [show i * inE.sz + 0 = 0 + i from by show i * 1 + 0 = 0 + i; omega] at this
    exact this
theorem own_vars {W : World} {base n c : Nat} {A : Option Addr} {l : List (Int × Int)} (h : pvE.Own W base (.slice A n c) l) : n = l.length ∧ PairsIn W A l := by
  rcases h.form with ⟨hv, rfl⟩ | ⟨g, c', hv, _⟩
  · injection hv with h1 h2
    exact ⟨h2, fun i hi => absurd hi (Nat.not_lt_zero i)⟩
  · injection hv with h1 h2 h3
    subst h1 h2 h3
    refine ⟨rfl, fun i hi => ⟨_, rfl, ?_, ?_⟩⟩
    · have := h.cell i l[i] (List.getElem?_eq_getElem hi) 0 (.int .i64 l[i].1) rfl
      rw [addr_add, Nat.zero_add]
      exact this
    · have := h.cell i l[i] (List.getElem?_eq_getElem hi) 1 (.int .i64 l[i].2) rfl
      rw [addr_add, Nat.zero_add]
      exact this
theorem own_steps {W : World} {base n c : Nat} {A : Option Addr} {l : List (Int × Int)} (h : psE.Own W base (.slice A n c) l) : n = l.length ∧ PairsIn W A l := by
  rcases h.form with ⟨hv, rfl⟩ | ⟨g, c', hv, _⟩
  · injection hv with h1 h2
    exact ⟨h2, fun i hi => absurd hi (Nat.not_lt_zero i)⟩
  · injection hv with h1 h2 h3
    subst h1 h2 h3
    refine ⟨rfl, fun i hi => ⟨_, rfl, ?_, ?_⟩⟩
    · have := h.cell i l[i] (List.getElem?_eq_getElem hi) 0 (.int .i64 l[i].1) rfl
      rw [addr_add, Nat.zero_add]
      exact this
    · have := h.cell i l[i] (List.getElem?_eq_getElem hi) 1 (.int .i64 l[i].2) rfl
      rw [addr_add, Nat.zero_add]
      exact this
theorem own_rules {W : World} {base n c : Nat} {A : Option Addr} {lv : List ((Option Addr × Nat × Nat) × Int)} {rs : List (List (Int × Int) × Int)} (h : rlE.Own W base (.slice A n c) lv) (hl : lv.length = rs.length) (hd : RulesDone base rs lv W) : n = rs.length ∧ RulesIn W A rs := by
  rcases h.form with ⟨hv, rfl⟩ | ⟨g, c', hv, _⟩
  · injection hv with h1 h2
    have : rs = [] := List.length_eq_zero_iff.1 hl.symm
    subst this
    exact ⟨h2, fun i hi => absurd hi (Nat.not_lt_zero i)⟩
  · injection hv with h1 h2 h3
    subst h1 h2 h3
    refine ⟨hl, fun i hi => ?_⟩
    obtain ⟨⟨⟨Ar, nr, cr⟩, wh⟩, k1, k2, k3⟩ := All2.at_ hd i hi
    obtain ⟨k4, k5⟩ := own_steps k2
    have e1 : nr = rs[i].1.length := k4
    have e2 : wh = rs[i].2 := k3
    subst e1 e2
    refine ⟨_, rfl, Ar, cr, ?_, ?_, k5⟩
    · have := h.cell i _ k1 0 (.slice Ar rs[i].1.length cr) rfl
      rw [addr_add, Nat.zero_add]
      exact this
    · have := h.cell i _ k1 1 (.int .i64 rs[i].2) rfl
      rw [addr_add, Nat.zero_add]
      exact this
theorem own_jobs {W : World} {base n c : Nat} {A : Option Addr} {lv : List JobV} {js : List JobP} (h : jbE.Own W base (.slice A n c) lv) (hl : lv.length = js.length) (hd : JobsDone base js lv W) : n = js.length ∧ JobsIn W A js := by
  rcases h.form with ⟨hv, rfl⟩ | ⟨g, c', hv, _⟩
  · injection hv with h1 h2
    have : js = [] := List.length_eq_zero_iff.1 hl.symm
    subst this
    exact ⟨h2, fun i hi => absurd hi (Nat.not_lt_zero i)⟩
  · injection hv with h1 h2 h3
    subst h1 h2 h3
    refine ⟨hl, fun i hi => ?_⟩
    obtain ⟨⟨one, al, ⟨Ar, nr, cr⟩, ⟨Av, nv, cv⟩, ⟨Ap, np, cp⟩⟩, k1, k2⟩ := All2.at_ hd i hi
    obtain ⟨lr, r1, r2, r3⟩ := k2.rules
    obtain ⟨k4, k5⟩ := own_rules r1 r2 r3
    obtain ⟨k6, k7⟩ := own_vars k2.vars
    obtain ⟨k8, k9⟩ := own_ints k2.preds
    have e1 : one = js[i].one := k2.one
    have e2 : al = js[i].allow := k2.allow
    have e3 : nr = js[i].rules.length := k4
    have e4 : nv = js[i].vars.length := k6
    have e5 : np = js[i].preds.length := k8
    subst e1 e2 e3 e4 e5
    refine ⟨_, rfl, Ar, Av, Ap, cr, cv, cp, ?_⟩
    have k := fun j u hj => h.cell i _ k1 j u hj
    have hz : jbE.sz = 9 := rfl
    simp only [hz] at k
    rw [addr_add, Nat.zero_add]
    exact ⟨k 0 _ rfl, k 1 _ rfl, k 2 _ rfl, k 3 _ rfl, k 4 _ rfl, k 5 _ rfl, k 6 _ rfl, k 7 _ rfl, k 8 _ rfl, k5, k7, k9⟩
/-! ### How much was read -/
theorem repR_all {α : Type} {f : Nat → RR α} : ∀ (n a : Nat) (l : List α) (a' : Nat), repR f n a = .inr (l, a') → l.length = n ∧ ∀ x ∈ l, ∃ b b', f b = .inr (x, b')
  | 0, a, l, a', h => by
    injection h with h
    injection h with h _
    subst h
    exact ⟨rfl, fun x hx => absurd hx List.not_mem_nil⟩
  | n + 1, a, l, a', h => by
    obtain ⟨x, a1, h1, h2⟩ := rbind_in h
    obtain ⟨l2, a2, h3, h4⟩ := rbind_in h2
    injection h4 with h4
    injection h4 with h4 _
    subst h4
    obtain ⟨i1, i2⟩ := repR_all n a1 l2 a2 h3
    refine ⟨by rw [List.length_cons, i1], fun y hy => ?_⟩
    rcases List.mem_cons.1 hy with rfl | hy
    · exact ⟨_, _, h1⟩
    · exact i2 y hy
theorem rowsR_all {α : Type} {f : Nat → RR α} {bs : List Int} (hB : Bytes bs) {a : Nat} {l : List α} {a' : Nat} (h : rowsR bs f a = .inr (l, a')) : l.length < 268435456 ∧ ∀ x ∈ l, ∃ b b', f b = .inr (x, b') := by
  obtain ⟨n, a1, h1, h2⟩ := rbind_in h
  obtain ⟨i1, i2⟩ := repR_all _ _ _ _ h2
  have := numberR_in hB h1
  exact ⟨by omega, i2⟩
theorem textR_size {bs : List Int} (hB : Bytes bs) {a : Nat} {x : ByteArray} {a' : Nat} (h : textR bs a = .inr (x, a')) : x.size < 268435456 := by
  unfold textR at h
  obtain ⟨n, a1, h1, h2⟩ := rbind_in h
  have := numberR_in hB h1
  by_cases hl : a1 + n.toNat ≤ bs.length
  · rw [if_pos hl] at h2
    injection h2 with h2
    injection h2 with h2 _
    subst h2
    rw [strOfNums_size, List.length_take]
    omega
  · rw [if_neg hl] at h2; cases h2
theorem ruleR_fits {bs : List Int} (hB : Bytes bs) {a : Nat} {x : List (Int × Int) × Int} {a' : Nat} (h : ruleR bs a = .inr (x, a')) : x.1.length < 268435456 := by
  obtain ⟨n, a1, h1, h2⟩ := rbind_in h
  obtain ⟨l, a2, h3, h4⟩ := rbind_in h2
  injection h4 with h4
  injection h4 with h4 _
  subst h4
  exact (rowsR_all hB h3).1
theorem wf_small {x : Int} (h0 : 0 ≤ x) (h1 : x < 268435456) : (Lit.int .i64 x).wf = true := wfI x (by omega)
theorem jobR_fits {bs : List Int} (hB : Bytes bs) {a : Nat} {x : JobP} {a' : Nat} (h : jobR bs a = .inr (x, a')) : JobFits x := by
  unfold jobR at h
  obtain ⟨ns, a1, h1, h2⟩ := rbind_in h
  unfold jobR2 at h2
  obtain ⟨c, a2, h3, h4⟩ := rbind_in h2
  by_cases hc : c ≤ 1
  · rw [if_pos hc] at h4
    unfold jobR3 at h4
    obtain ⟨rs, a3, h5, h6⟩ := rbind_in h4
    obtain ⟨vs, a4, h7, h8⟩ := rbind_in h6
    obtain ⟨ps, a5, h9, h10⟩ := rbind_in h8
    injection h10 with h10
    injection h10 with h10 _
    subst h10
    obtain ⟨n1, n2⟩ := repR_all _ _ _ _ h1
    obtain ⟨r1, r2⟩ := rowsR_all hB h5
    obtain ⟨v1, v2⟩ := rowsR_all hB h7
    obtain ⟨p1, p2⟩ := rowsR_all hB h9
    refine ⟨?_, by show rs.length ≤ _; omega, fun r hr => ?_, by show vs.length ≤ _; omega, by show ps.length ≤ _; omega⟩
    · show (Lit.int .i64 (ns.getD 0 0)).wf = true
      have h5 : 0 < ns.length := by omega
      rw [List.getD_eq_getElem?_getD, List.getElem?_eq_getElem h5, Option.getD_some]
      obtain ⟨b, b', hb⟩ := n2 _ (List.getElem_mem h5)
      have := numberR_in hB hb
      exact wf_small this.1 this.2.1
    · obtain ⟨b, b', hb⟩ := r2 r hr
      have := ruleR_fits hB hb
      omega
  · rw [if_neg hc] at h4; cases h4
structure PlanFits (bs : List Int) (ts : List ByteArray) (js : List JobP) (a : Nat) : Prop where
  tl : ts.length < 268435456
  jl : js.length < 268435456
  sizes : ∀ s ∈ ts, s.size < 268435456
  fits : ∀ j ∈ js, JobFits j
  all : a = bs.length
  head : ∃ h : Nat, headR bs headL 0 = .inr ((), h)
theorem planR_fits {bs : List Int} (hB : Bytes bs) {ts : List ByteArray} {js : List JobP} {a : Nat} (h : planR bs = .inr ((ts, js), a)) : PlanFits bs ts js a := by
  unfold planR at h
  obtain ⟨_, a0, h0, h1⟩ := rbind_in h
  obtain ⟨ts', a1, h2, h3⟩ := rbind_in h1
  obtain ⟨js', a2, h4, h5⟩ := rbind_in h3
  by_cases he : a2 = bs.length
  · rw [if_pos he] at h5
    injection h5 with h5
    injection h5 with h5 h6
    injection h5 with h7 h8
    subst h6 h7 h8
    obtain ⟨t1, t2⟩ := rowsR_all hB h2
    obtain ⟨j1, j2⟩ := rowsR_all hB h4
    exact ⟨t1, j1, fun s hs => by obtain ⟨b, b', hb⟩ := t2 s hs; exact textR_size hB hb, fun j hj => by obtain ⟨b, b', hb⟩ := j2 j hj; exact jobR_fits hB hb, he, a0, h0⟩
  · rw [if_neg he] at h5; cases h5
theorem PlanLies.planIn {base : Nat} {At : Option Addr} {nt ct : Nat} {Aj : Option Addr} {nj cj : Nat} {bs : List Int} {ts : List ByteArray} {js : List JobP} {a : Nat} {W : World} (h : PlanLies base At nt ct Aj nj cj ts js W) (hf : PlanFits bs ts js a) : nt = ts.length ∧ nj = js.length ∧ PlanIn W At ts Aj js := by
  obtain ⟨h1, h2⟩ := own_strs h.texts
  obtain ⟨lv, h3, h4, h5⟩ := h.jobs
  obtain ⟨h6, h7⟩ := own_jobs h3 h4 h5
  have := hf.tl
  have := hf.jl
  exact ⟨h1, h6, h2, h7, by omega, by omega, fun s hs => by have := hf.sizes s hs; omega, hf.fits⟩
theorem riseTo_small {ts : List ByteArray} (h : ∀ s ∈ ts, s.size < 268435456) : ∀ k : Nat, riseTo ts k ≤ (k : Int) * 268435456
  | 0 => by simp [riseTo]
  | k + 1 => by
    have ih := riseTo_small h k
    have hs : ((ts.getD k .empty).size : Int) ≤ 268435456 := by
      rw [List.getD_eq_getElem?_getD]
      rcases Nat.lt_or_ge k ts.length with hk | hk
      · rw [List.getElem?_eq_getElem hk, Option.getD_some]
        have := h _ (List.getElem_mem hk)
        omega
      · rw [List.getElem?_eq_none hk, Option.getD_none]
        show ((0 : Nat) : Int) ≤ _
        omega
    show riseTo ts k + (if k = 0 then 0 else min _ _) ≤ _
    split <;> omega
theorem planC_ok {bs : List Int} (hB : Bytes bs) {ts : List ByteArray} {js : List JobP} {a : Nat} (h : planR bs = .inr ((ts, js), a)) : planC bs = (bs.length : Int) + 5 := by
  have hf := planR_fits hB h
  obtain ⟨h0, hh⟩ := hf.head
  unfold planC
  rw [hh, h]
  show (a : Int) + 5 = _
  rw [hf.all]
theorem rise_fits {bs : List Int} (hB : Bytes bs) {ts : List ByteArray} {js : List JobP} {a : Nat} (h : planR bs = .inr ((ts, js), a)) : 0 ≤ planC bs ∧ planC bs + riseTo ts ts.length ≤ 4611686018427387904 := by
  have hf := planR_fits hB h
  have h1 := riseTo_small hf.sizes ts.length
  have h2 := hf.tl
  have h3 := hB.len
  rw [planC_ok hB h]
  omega
end Go.Proofs.Ytoaopjbgaehpfaa.G
end
section
/- wire.Decode: the plan that bytes are, or why they are none. -/
namespace Go.Proofs.Ytoaopjbgaehpfaa.G
open Go.RowKit
attribute [local simp, local go_sem] alloc_drewN setCell_drewN
set_option linter.unusedVariables false
set_option linter.unusedSimpArgs false
set_option maxRecDepth 100000
/-- The bytes that come in. -/
structure BytesIn (w : World) (A : Option Addr) (bs : List Int) (cp : Nat) : Prop where
  cells : ∀ i (hi : i < bs.length), ∃ ad, A = some ad ∧ w.cell? (ad.add i) = some (.int .u8 bs[i])
  lt : ∀ ad, A = some ad → ad.block < w.heap.size
  spot : ∀ ad, A = some ad → ad.spot = none
  rng : Bytes bs
  cap : bs.length ≤ cp
  cap2 : cp ≤ 9223372036854775807
/-! ### Which errors there are -/
def ErrOk {α : Type} (r : RR α) : Prop := ∀ c a, r = .inl (c, a) → c = 181 ∨ c = 182
theorem ErrOk.bind {α β : Type} {r : RR α} {f : α → Nat → RR β} (h : ErrOk r) (hf : ∀ x a, ErrOk (f x a)) : ErrOk (rbind r f) := fun c a e => by
  rcases r with ⟨c', a'⟩ | ⟨x, a'⟩
  · exact h c a (by cases e; rfl)
  · exact hf x a' c a e
theorem errOk_inr {α : Type} (x : α) (a : Nat) : ErrOk (α := α) (.inr (x, a)) := fun _ _ e => nomatch e
theorem errOk_1 {α : Type} (a : Nat) : ErrOk (α := α) (.inl (181, a)) := fun c a' e => by cases e; exact .inl rfl
theorem errOk_2 {α : Type} (a : Nat) : ErrOk (α := α) (.inl (182, a)) := fun c a' e => by cases e; exact .inr rfl
theorem errOk_if {α : Type} {p : Prop} [Decidable p] {x y : RR α} (hx : ErrOk x) (hy : ErrOk y) : ErrOk (if p then x else y) := by split <;> assumption
theorem errOk_num (bs : List Int) : ∀ (f k : Nat) (n : Int) (a : Nat), ErrOk (numR bs f k n a)
  | 0, _, _, a => errOk_2 a
  | f + 1, k, n, a => by
    unfold numR
    exact errOk_if (errOk_if (errOk_if (errOk_2 _) (errOk_inr _ _)) (errOk_num bs f _ _ _)) (errOk_1 _)
theorem errOk_number (bs : List Int) (a : Nat) : ErrOk (numberR bs a) := errOk_num bs 4 0 0 a
theorem errOk_byte (bs : List Int) (a : Nat) : ErrOk (byteR bs a) := by unfold byteR; exact errOk_if (errOk_inr _ _) (errOk_1 _)
theorem errOk_rep {α : Type} {f : Nat → RR α} (hf : ∀ a, ErrOk (f a)) : ∀ n a, ErrOk (repR f n a)
  | 0, a => errOk_inr _ _
  | n + 1, a => (hf a).bind fun x a' => (errOk_rep hf n a').bind fun l a'' => errOk_inr _ _
theorem errOk_rows {α : Type} (bs : List Int) {f : Nat → RR α} (hf : ∀ a, ErrOk (f a)) (a : Nat) : ErrOk (rowsR bs f a) := (errOk_number bs a).bind fun n a' => errOk_rep hf _ _
theorem errOk_text (bs : List Int) (a : Nat) : ErrOk (textR bs a) := (errOk_number bs a).bind fun n a' => errOk_if (errOk_inr _ _) (errOk_1 _)
theorem errOk_step (bs : List Int) (a : Nat) : ErrOk (stepR bs a) := (errOk_byte bs a).bind fun c a' => errOk_if (errOk_if ((errOk_number bs _).bind fun n a'' => errOk_inr _ _) (errOk_inr _ _)) (errOk_2 _)
theorem errOk_rule (bs : List Int) (a : Nat) : ErrOk (ruleR bs a) := (errOk_number bs a).bind fun n a' => (errOk_rows bs (errOk_step bs) _).bind fun l a'' => errOk_inr _ _
theorem errOk_var (bs : List Int) (a : Nat) : ErrOk (varR bs a) := (errOk_number bs a).bind fun n a' => (errOk_number bs _).bind fun l a'' => errOk_inr _ _
theorem errOk_job (bs : List Int) (a : Nat) : ErrOk (jobR bs a) :=
  (errOk_rep (errOk_number bs) 5 a).bind fun ns a1 => (errOk_byte bs a1).bind fun c a2 => errOk_if ((errOk_rows bs (errOk_rule bs) _).bind fun rs a3 => (errOk_rows bs (errOk_var bs) _).bind fun vs a4 => (errOk_rows bs (errOk_number bs) _).bind fun ps a5 => errOk_inr _ _) (errOk_2 _)
theorem errOk_head (bs : List Int) : ∀ l a, ErrOk (headR bs l a)
  | [], a => errOk_inr _ _
  | c :: l, a => by unfold headR; exact errOk_if (errOk_if (errOk_head bs l _) (errOk_2 _)) (errOk_1 _)
theorem errOk_plan (bs : List Int) : ErrOk (planR bs) :=
  (errOk_head bs headL 0).bind fun _ a => (errOk_rows bs (errOk_text bs) _).bind fun ts a1 => (errOk_rows bs (errOk_job bs) _).bind fun js a2 => errOk_if (errOk_inr _ _) (errOk_2 _)
/-- What Decode answers: the plan, how much was read and compared, and the error. -/
def decPlan (bs : List Int) : Option (List ByteArray × List JobP) :=
  match planR bs with
  | .inl _ => none
  | .inr (p, _) => if okP p.1 p.2 = true then some p else none
def decCount (bs : List Int) : Int :=
  match planR bs with
  | .inl _ => planC bs
  | .inr (p, _) => planC bs + riseTo p.1 p.1.length
def decErr (bs : List Int) : Int :=
  match planR bs with
  | .inl (c, _) => c
  | .inr (p, _) => if okP p.1 p.2 = true then 0 else 180
theorem results_cell2 {P : Program} {fn : Func} {p t1 t2 : Tmp} {ty : TypeId} (h : fn.results = #[.cell p ty, .tmp t1, .tmp t2]) (tmps : Array Value) (w : World) (g : Nat) (t : TypeId) (cs : Array Value) (fr : Nat × Nat) (d : TypeDesc)
    (hp : tmps.getD p undef = .pointer (some ⟨g, 0, none⟩)) (hg : w.heap[g]? = some (.cells cs t fr))
    (hu : P.underlying ty = some d) (hd : (match d with | .struct _ | .array _ _ => true | _ => false) = true) (hi : (P.info? ty).map (·.size) = some cs.size) (v1 v2 : Value) (h1 : tmps.getD t1 undef = v1) (h2 : tmps.getD t2 undef = v2) :
    (results fn tmps).run P w = .ok (.tuple #[.agg cs, v1, v2]) w := by
  have hp' : tmps[p]?.getD undef = .pointer (some ⟨g, 0, none⟩) := by simpa using hp
  have h1' : tmps[t1]?.getD undef = v1 := by simpa using h1
  have h2' : tmps[t2]?.getD undef = v2 := by simpa using h2
  simp [results, h, hp', h1', h2', asAddr, run_loadVar_row w g t ty cs fr d hg hu hd hi]
def DecPost (bs : List Int) (w : World) (e : Ending) (w' : World) : Prop :=
  But No w w' ∧ match decPlan bs with
  | none => e = .returned (.tuple #[.agg #[.slice none 0 0, .slice none 0 0], .int .i64 (decCount bs), .int .i64 (decErr bs)])
  | some (ts, js) => ∃ At ct Aj cj, e = .returned (.tuple #[.agg #[.slice At ts.length ct, .slice Aj js.length cj], .int .i64 (decCount bs), .int .i64 0]) ∧ PlanLies w.heap.size At ts.length ct Aj js.length cj ts js w'
theorem drewH {w : World} {i : Nat} {o : Obj} (h : w.heap[i]? = some o) : w.drew.heap[i]? = some o := h
theorem texts_far {base : Nat} {At : Option Addr} {nt ct : Nat} {Aj : Option Addr} {nj cj : Nat} {ts : List ByteArray} {js : List JobP} {W : World} (h : PlanLies base At nt ct Aj nj cj ts js W) : ∀ i (hi : i < ts.length), ∃ ad, At = some ad ∧ W.cell? (ad.add i) = some (.string ts[i]) ∧ base ≤ ad.block := fun i hi => by
  obtain ⟨ad, h1, h2⟩ := (own_strs h.texts).2 i hi
  refine ⟨ad, h1, h2, ?_⟩
  rcases h.texts.form with ⟨hv, hn⟩ | ⟨g, c', hv, hg, _⟩
  · rw [hn] at hi; exact absurd hi (Nat.not_lt_zero i)
  · injection hv with hv
    rw [h1] at hv
    injection hv with hv
    rw [hv]
    exact hg
set_option maxHeartbeats 4000000 in
theorem decode0 {A : Option Addr} {cp : Nat} {bs : List Int} {w : World} (h : BytesIn w A bs cp) :
    Calls Try.prog 17 #[.slice A bs.length cp] w (DecPost bs w) := by
  have hmf : ∀ (fn : Fn) (first cap : Array Value) (w : World), (Instr.makeFunc fn first cap).run Try.prog w = .ok (.func fn first cap) w := fun _ _ _ _ => rfl
  have HH := Lib.hid h
  obtain ⟨T, hT⟩ : ∃ T, planR bs = T := ⟨_, rfl⟩
  have HT := Lib.hid hT
  have hl1 := h.rng.len
  have hAn : ∀ i (hi : i < bs.length), ∃ ad, A = some ad ∧ ((w.alloc (.cells #[.slice none 0 0, .slice none 0 0] 25)).alloc (.cells #[.slice A bs.length cp, .int .i64 0, .int .i64 0] 72)).cell? (ad.add i) = some (.int .u8 bs[i]) ∧ ad.block ≠ w.heap.size + 1 := fun i hi => by
    obtain ⟨ad, h1, h2⟩ := h.cells i hi
    exact ⟨ad, h1, (((But.refl No w).alloc _).alloc _).cell_some h2 (fun c => c), by have := h.lt ad h1; omega⟩
  have HP := Lib.hid (show Calls Try.prog 36 #[.pointer (some ⟨w.heap.size + 1, 0, none⟩), .func (.func 37) #[.pointer (some ⟨w.heap.size + 1, 0, none⟩)] #[]] ((w.alloc (.cells #[.slice none 0 0, .slice none 0 0] 25)).alloc (.cells #[.slice A bs.length cp, .int .i64 0, .int .i64 0] 72)) (WholePost (w.heap.size + 1) A bs cp ((w.alloc (.cells #[.slice none 0 0, .slice none 0 0] 25)).alloc (.cells #[.slice A bs.length cp, .int .i64 0, .int .i64 0] 72)) T) from
    hT ▸ whole0 (heap_alloc2_newJ w _ _) hAn h.rng h.spot h.cap h.cap2 (fun ad e => by have := h.lt ad e; simp; omega))
  clear h hAn
  go_enter Try.func17, Try.ntmps17
  have herr := Lib.hid (hT ▸ errOk_plan bs)
  clear hT
  rcases T with ⟨c, a⟩ | ⟨⟨ts, js⟩, a⟩
  · have hc0 : c ≠ 0 := by rcases herr.out c a rfl with h | h <;> omega
    have hc1 : (c != 0) = true := by simpa using hc0
    go_wp2_with (first | (go_at_call 36; refine HP.out.mono ?_; rintro e w1 ⟨hb1, rfl, hr1⟩; (have HB1 := Lib.hid hb1); (have HR1 := Lib.hid hr1); (have q2 : w1.cell? ⟨w.heap.size + 1, 2, none⟩ = some (.int .i64 (planC bs)) := blkcell hr1 2 (by simp)); (have hq1 := (hb1.block w.heap.size (by simp; omega) (by show ¬ w.heap.size = w.heap.size + 1; omega)).trans (blkold (heap_alloc_new w _) _)); (have p0 : w1.cell? ⟨w.heap.size, 0, none⟩ = some (.slice none 0 0) := blkcell hq1 0 (by simp)); (have p1 : w1.cell? ⟨w.heap.size, 1, none⟩ = some (.slice none 0 0) := blkcell hq1 1 (by simp)); (have pf : ∀ i, w1.frozen? ⟨w.heap.size, i, none⟩ = false := blkfree hq1); (have HQ1 := Lib.hid hq1); (have hl1' : w.heap.size + 1 < w1.heap.size := lt_of_block hr1); (have n1 : ¬ w1.heap.size = w.heap.size := by omega); (have n2 : ¬ w.heap.size = w1.heap.size := by omega); (have n3 : ¬ w1.heap.size = w.heap.size + 1 := by omega); (have n4 : ¬ w.heap.size + 1 = w1.heap.size := by omega); clear hb1 hr1 hq1))
    have k0 := ((But.refl No w1).alloc (.cells #[.slice none 0 0, .slice none 0 0] 25)).cell_some p0 (fun c => c)
    have k1 := ((But.refl No w1).alloc (.cells #[.slice none 0 0, .slice none 0 0] 25)).cell_some p1 (fun c => c)
    have k2 := ((But.refl No w1).alloc (.cells #[.slice none 0 0, .slice none 0 0] 25)).cell_some q2 (fun c => c)
    have kb := blkold HQ1.out (.cells #[.slice none 0 0, .slice none 0 0] 25)
    have kf : ∀ i, (w1.alloc (.cells #[.slice none 0 0, .slice none 0 0] 25)).frozen? ⟨w.heap.size, i, none⟩ = false := blkfree kb
    have HB2 := Lib.hid (HB1.out.alloc (.cells #[.slice none 0 0, .slice none 0 0] 25))
    have HQ2 := Lib.hid kb
    clear p0 p1 pf q2 kb
    generalize w1.alloc (.cells #[.slice none 0 0, .slice none 0 0] 25) = W1 at *
    refine wp_region_held_drew (S := fun w' => w'.cell? ⟨w.heap.size + 1, 2, none⟩ = some (.int .i64 (planC bs))) (by kernel_rfl) (by go_simp) (fun hS => ?_)
    refine takeE 0 (some 22) rfl rfl (fun w e1 => by go_simp <;> (with_reducible rfl)) hS ?_
    simp only [putS]
    refine takeE 1 (some 23) rfl rfl (fun w e1 => by go_simp <;> (with_reducible rfl)) hS ?_
    simp only [putS]
    refine takeE 2 (some 24) rfl rfl (fun w e1 => by go_simp <;> (with_reducible rfl)) hS ?_
    simp only [putS]
    refine takeE 3 (some 25) rfl rfl (fun w e1 => by go_simp <;> (with_reducible rfl)) hS ?_
    simp only [putS]
    refine takeE 4 (some 26) rfl rfl (fun w e1 => by go_simp <;> (with_reducible rfl)) hS ?_
    simp only [putS]
    refine takeE 5 (some 27) rfl rfl (fun w e1 => by go_simp <;> (with_reducible rfl)) hS ?_
    simp only [putS]
    refine wpAnyH_ready (rs := [6]) (by kernel_rfl) (by simp) (AllReadyH.cons rfl (fun K6 hK6 => ?_) AllReadyH.nil)
    rw [if_pos (by kernel_rfl)]
    go_simp
    refine hK6.out _ _ (by go_simp) (fun hS => ?_)
    try simp only [putS, List.getElem_toArray, List.getElem_cons_zero, List.getElem_cons_succ]
    refine takeE 7 (some 3) rfl rfl (fun w e1 => by go_simp <;> (with_reducible rfl)) hS ?_
    simp only [putS]
    refine takeE 8 (some 4) rfl rfl (fun w e1 => by go_simp <;> (with_reducible rfl)) hS ?_
    simp only [putS]
    refine wpAnyH_done (by kernel_rfl) ?_ _
    go_wp2_with fail
    have hf1 := blkset (blkset HQ2.out 0 (.slice none 0 0)) 1 (.slice none 0 0)
    simp only [List.setIfInBounds_toArray, List.set_cons_zero, List.set_cons_succ] at hf1
    have hf2 := drewH hf1
    refine bodyPost_ret (results_cell2 rfl _ _ w.heap.size 25 #[.slice none 0 0, .slice none 0 0] (0, 0) _ rfl hf2 Try.underlying25 rfl (by kernel_rfl) _ _ rfl rfl) rfl ?_
    unfold DecPost
    refine ⟨(((((((But.refl No w).alloc (.cells #[.slice none 0 0, .slice none 0 0] 25)).alloc (.cells #[.slice A bs.length cp, .int .i64 0, .int .i64 0] 72)).trans_ HB2.out (fun k hk (e : k = w.heap.size + 1) => by omega))).setCell (p := ⟨w.heap.size, 0, none⟩) (.inr (Nat.le_refl _)) (.slice none 0 0)).setCell (p := ⟨w.heap.size, 1, none⟩) (.inr (Nat.le_refl _)) (.slice none 0 0)).drew, ?_⟩
    have h1 : decPlan bs = none := by unfold decPlan; rw [HT.out]
    have h2 : decCount bs = planC bs := by unfold decCount; rw [HT.out]
    have h3 : decErr bs = c := by unfold decErr; rw [HT.out]
    rw [h1, h2, h3]
    exact rfl
  · have HPF := Lib.hid (planR_fits HH.out.rng HT.out)
    have HRS := Lib.hid (rise_fits HH.out.rng HT.out)
    have hfirst : True := trivial
    by_cases hok : okP ts js = true
    · go_wp2_with (first | (go_at_call 36; refine HP.out.mono ?_; rintro e w1 ⟨hb1, ⟨At, nt, ct, Aj, nj, cj, rfl, hlies⟩, hr1⟩; (obtain ⟨hnt, hnj, hpi⟩ := hlies.planIn HPF.out); subst hnt; subst hnj; (have HLI := Lib.hid hlies); clear hlies hpi; (have HR1 := Lib.hid hr1); (have HB1 := Lib.hid hb1); (have hq1 := (hb1.block w.heap.size (by simp; omega) (by show ¬ w.heap.size = w.heap.size + 1; omega)).trans (blkold (heap_alloc_new w _) _)); (have HQ1 := Lib.hid hq1); (have hl1' : w.heap.size + 1 < w1.heap.size := lt_of_block hr1); clear hb1 hr1 hq1) | (go_at_call 38; refine (rising0 (blkold HR1.out _) (fun i hi => by obtain ⟨ad, i1, i2, i3⟩ := texts_far HLI.out i hi; exact ⟨ad, i1, ((But.refl No w1).alloc _).cell_some i2 (fun c => c), by simp at i3; omega⟩) (fun s hs => by have := HPF.out.sizes s hs; omega) (by have := HPF.out.tl; omega) HRS.out.1 HRS.out.2).mono ?_; rintro e w2 ⟨rfl, hb2, hr2⟩; (have hq2 := (hb2.block w.heap.size (by simp; omega) (by show ¬ w.heap.size = w.heap.size + 1; omega)).trans (blkold HQ1.out _)); (have hs2 := (hb2.block w1.heap.size (by simp) (by show ¬ w1.heap.size = w.heap.size + 1; omega)).trans (heap_alloc_new w1 _)); (have hli := HLI.out.move ((((But.refl (One (w.heap.size + 1)) w1).alloc _).trans hb2)) (fun k hk (e : k = w.heap.size + 1) => by simp at hk; omega) (Nat.le_refl _)); (have HB2 := Lib.hid ((HB1.out.alloc _).trans hb2)); (obtain ⟨_, _, hpi⟩ := hli.planIn HPF.out); (have HPI := Lib.hid hpi); (have HL2 := Lib.hid hli); (have HR2 := Lib.hid hr2); (have HQ2 := Lib.hid hq2); (have HS2 := Lib.hid hs2); (have s0 : w2.cell? ⟨w1.heap.size, 0, none⟩ = some (.slice At ts.length ct) := blkcell hs2 0 (by simp)); (have s1 : w2.cell? ⟨w1.heap.size, 1, none⟩ = some (.slice Aj js.length cj) := blkcell hs2 1 (by simp)); clear hq2 hs2 hli hpi hb2 hr2) | (go_at_call 19; refine (check_ok ct cj HPI.out hok).mono ?_; rintro e w3 ⟨⟨n0, rfl⟩, hbl⟩; (have hb3 := But.of_below (S := No) hbl); (have hq3 := (hb3.block w.heap.size (lt_of_block HQ2.out) (fun c => c)).trans HQ2.out); (have hs3 := (hb3.block w1.heap.size (lt_of_block HS2.out) (fun c => c)).trans HS2.out); (have hr3 := (hb3.block (w.heap.size + 1) (lt_of_block HR2.out) (fun c => c)).trans HR2.out); (have s0 : w3.cell? ⟨w1.heap.size, 0, none⟩ = some (.slice At ts.length ct) := blkcell hs3 0 (by simp)); (have s1 : w3.cell? ⟨w1.heap.size, 1, none⟩ = some (.slice Aj js.length cj) := blkcell hs3 1 (by simp)); (have q2 : w3.cell? ⟨w.heap.size + 1, 2, none⟩ = some (.int .i64 (planC bs + riseTo ts ts.length)) := blkcell hr3 2 (by simp)); (have p0 : w3.cell? ⟨w.heap.size, 0, none⟩ = some (.slice none 0 0) := blkcell hq3 0 (by simp)); (have p1 : w3.cell? ⟨w.heap.size, 1, none⟩ = some (.slice none 0 0) := blkcell hq3 1 (by simp)); (have pf : ∀ i, w3.frozen? ⟨w.heap.size, i, none⟩ = false := blkfree hq3); (have HL3 := Lib.hid (HL2.out.move (But.of_below (S := No) hbl) (fun k _ h => h) (Nat.le_refl _))); (have HB3 := Lib.hid (HB2.out.trans_ hb3 (fun k hk h => h.elim))); (have HQ2 := Lib.hid hq3); (have n1 : ¬ w1.heap.size = w.heap.size := by omega); (have n2 : ¬ w.heap.size = w1.heap.size := by omega); (have n3 : ¬ w1.heap.size = w.heap.size + 1 := by omega); (have n4 : ¬ w.heap.size + 1 = w1.heap.size := by omega); clear hbl hb3 hq3 hs3 hr3))
      refine wp_region_held_drew (S := fun w' => w'.cell? ⟨w.heap.size + 1, 2, none⟩ = some (.int .i64 (planC bs + riseTo ts ts.length)) ∧ w'.cell? ⟨w1.heap.size, 0, none⟩ = some (.slice At ts.length ct) ∧ w'.cell? ⟨w1.heap.size, 1, none⟩ = some (.slice Aj js.length cj)) (by kernel_rfl) (⟨by go_simp, by go_simp, by go_simp⟩) (fun hS => ?_)
      refine takeE 0 (some 44) rfl rfl (fun w ⟨e1, e2, e3⟩ => by go_simp <;> (with_reducible rfl)) hS ?_
      simp only [putS]
      refine takeE 1 (some 45) rfl rfl (fun w ⟨e1, e2, e3⟩ => by go_simp <;> (with_reducible rfl)) hS ?_
      simp only [putS]
      refine takeE 2 (some 46) rfl rfl (fun w ⟨e1, e2, e3⟩ => by go_simp <;> (with_reducible rfl)) hS ?_
      simp only [putS]
      refine takeE 3 (some 47) rfl rfl (fun w ⟨e1, e2, e3⟩ => by go_simp <;> (with_reducible rfl)) hS ?_
      simp only [putS]
      refine takeE 4 (some 48) rfl rfl (fun w ⟨e1, e2, e3⟩ => by go_simp <;> (with_reducible rfl)) hS ?_
      simp only [putS]
      refine wpAnyH_ready (rs := [5]) (by kernel_rfl) (by simp) (AllReadyH.cons rfl (fun K6 hK6 => ?_) AllReadyH.nil)
      rw [if_pos (by kernel_rfl)]
      go_simp
      refine hK6.out _ _ (⟨by go_simp, by go_simp, by go_simp⟩) (fun hS => ?_)
      try simp only [putS, List.getElem_toArray, List.getElem_cons_zero, List.getElem_cons_succ]
      refine takeE 6 (some 3) rfl rfl (fun w ⟨e1, e2, e3⟩ => by go_simp <;> (with_reducible rfl)) hS ?_
      simp only [putS]
      refine takeE 7 (some 4) rfl rfl (fun w ⟨e1, e2, e3⟩ => by go_simp <;> (with_reducible rfl)) hS ?_
      simp only [putS]
      refine wpAnyH_done (by kernel_rfl) ?_ _
      go_wp2_with fail
      have hf1 := blkset (blkset HQ2.out 0 (.slice At ts.length ct)) 1 (.slice Aj js.length cj)
      simp only [List.setIfInBounds_toArray, List.set_cons_zero, List.set_cons_succ] at hf1
      have hf2 := drewH hf1
      refine bodyPost_ret (results_cell2 rfl _ _ w.heap.size 25 #[.slice At ts.length ct, .slice Aj js.length cj] (0, 0) _ rfl hf2 Try.underlying25 rfl (by kernel_rfl) _ _ rfl rfl) rfl ?_
      unfold DecPost
      refine ⟨(((((((But.refl No w).alloc (.cells #[.slice none 0 0, .slice none 0 0] 25)).alloc (.cells #[.slice A bs.length cp, .int .i64 0, .int .i64 0] 72)).trans_ HB3.out (fun k hk (e : k = w.heap.size + 1) => by omega))).setCell (p := ⟨w.heap.size, 0, none⟩) (.inr (Nat.le_refl _)) (.slice At ts.length ct)).setCell (p := ⟨w.heap.size, 1, none⟩) (.inr (Nat.le_refl _)) (.slice Aj js.length cj)).drew, ?_⟩
      have h1 : decPlan bs = some (ts, js) := by unfold decPlan; rw [HT.out]; exact if_pos hok
      have h2 : decCount bs = planC bs + riseTo ts ts.length := by unfold decCount; rw [HT.out]
      rw [h1, h2]
      exact ⟨At, ct, Aj, cj, rfl, HL3.out.move (((But.refl (fun k => k = w.heap.size) w3).setCell (p := ⟨w.heap.size, 0, none⟩) (.inl rfl) _).setCell (p := ⟨w.heap.size, 1, none⟩) (.inl rfl) _).drew (fun k hk h => by simp at hk; omega) (by simp; omega)⟩
    · have hok : okP ts js = false := by simpa using hok
      go_wp2_with (first | (go_at_call 36; refine HP.out.mono ?_; rintro e w1 ⟨hb1, ⟨At, nt, ct, Aj, nj, cj, rfl, hlies⟩, hr1⟩; (obtain ⟨hnt, hnj, hpi⟩ := hlies.planIn HPF.out); subst hnt; subst hnj; (have HLI := Lib.hid hlies); clear hlies hpi; (have HR1 := Lib.hid hr1); (have HB1 := Lib.hid hb1); (have hq1 := (hb1.block w.heap.size (by simp; omega) (by show ¬ w.heap.size = w.heap.size + 1; omega)).trans (blkold (heap_alloc_new w _) _)); (have HQ1 := Lib.hid hq1); (have hl1' : w.heap.size + 1 < w1.heap.size := lt_of_block hr1); clear hb1 hr1 hq1) | (go_at_call 38; refine (rising0 (blkold HR1.out _) (fun i hi => by obtain ⟨ad, i1, i2, i3⟩ := texts_far HLI.out i hi; exact ⟨ad, i1, ((But.refl No w1).alloc _).cell_some i2 (fun c => c), by simp at i3; omega⟩) (fun s hs => by have := HPF.out.sizes s hs; omega) (by have := HPF.out.tl; omega) HRS.out.1 HRS.out.2).mono ?_; rintro e w2 ⟨rfl, hb2, hr2⟩; (have hq2 := (hb2.block w.heap.size (by simp; omega) (by show ¬ w.heap.size = w.heap.size + 1; omega)).trans (blkold HQ1.out _)); (have hs2 := (hb2.block w1.heap.size (by simp) (by show ¬ w1.heap.size = w.heap.size + 1; omega)).trans (heap_alloc_new w1 _)); (have hli := HLI.out.move ((((But.refl (One (w.heap.size + 1)) w1).alloc _).trans hb2)) (fun k hk (e : k = w.heap.size + 1) => by simp at hk; omega) (Nat.le_refl _)); (have HB2 := Lib.hid ((HB1.out.alloc _).trans hb2)); (obtain ⟨_, _, hpi⟩ := hli.planIn HPF.out); (have HPI := Lib.hid hpi); (have HL2 := Lib.hid hli); (have HR2 := Lib.hid hr2); (have HQ2 := Lib.hid hq2); (have HS2 := Lib.hid hs2); (have s0 : w2.cell? ⟨w1.heap.size, 0, none⟩ = some (.slice At ts.length ct) := blkcell hs2 0 (by simp)); (have s1 : w2.cell? ⟨w1.heap.size, 1, none⟩ = some (.slice Aj js.length cj) := blkcell hs2 1 (by simp)); clear hq2 hs2 hli hpi hb2 hr2) | (go_at_call 19; refine (check_no ct cj HPI.out hok).mono ?_; rintro e w3 ⟨⟨n0, c0, hc0, rfl⟩, hbl⟩; (have hb3 := But.of_below (S := No) hbl); (have hq3 := (hb3.block w.heap.size (lt_of_block HQ2.out) (fun c => c)).trans HQ2.out); (have hs3 := (hb3.block w1.heap.size (lt_of_block HS2.out) (fun c => c)).trans HS2.out); (have hr3 := (hb3.block (w.heap.size + 1) (lt_of_block HR2.out) (fun c => c)).trans HR2.out); (have s0 : w3.cell? ⟨w1.heap.size, 0, none⟩ = some (.slice At ts.length ct) := blkcell hs3 0 (by simp)); (have s1 : w3.cell? ⟨w1.heap.size, 1, none⟩ = some (.slice Aj js.length cj) := blkcell hs3 1 (by simp)); (have q2 : w3.cell? ⟨w.heap.size + 1, 2, none⟩ = some (.int .i64 (planC bs + riseTo ts ts.length)) := blkcell hr3 2 (by simp)); (have p0 : w3.cell? ⟨w.heap.size, 0, none⟩ = some (.slice none 0 0) := blkcell hq3 0 (by simp)); (have p1 : w3.cell? ⟨w.heap.size, 1, none⟩ = some (.slice none 0 0) := blkcell hq3 1 (by simp)); (have pf : ∀ i, w3.frozen? ⟨w.heap.size, i, none⟩ = false := blkfree hq3); (have HL3 := Lib.hid (HL2.out.move (But.of_below (S := No) hbl) (fun k _ h => h) (Nat.le_refl _))); (have HB3 := Lib.hid (HB2.out.trans_ hb3 (fun k hk h => h.elim))); (have HQ2 := Lib.hid hq3); (have n1 : ¬ w1.heap.size = w.heap.size := by omega); (have n2 : ¬ w.heap.size = w1.heap.size := by omega); (have n3 : ¬ w1.heap.size = w.heap.size + 1 := by omega); (have n4 : ¬ w.heap.size + 1 = w1.heap.size := by omega); clear hbl hb3 hq3 hs3 hr3))
      refine wp_region_held_drew (S := fun w' => w'.cell? ⟨w.heap.size + 1, 2, none⟩ = some (.int .i64 (planC bs + riseTo ts ts.length))) (by kernel_rfl) (by go_simp) (fun hS => ?_)
      refine takeE 0 (some 39) rfl rfl (fun w e1 => by go_simp <;> (with_reducible rfl)) hS ?_
      simp only [putS]
      refine takeE 1 (some 40) rfl rfl (fun w e1 => by go_simp <;> (with_reducible rfl)) hS ?_
      simp only [putS]
      refine takeE 2 (some 41) rfl rfl (fun w e1 => by go_simp <;> (with_reducible rfl)) hS ?_
      simp only [putS]
      refine takeE 3 (some 42) rfl rfl (fun w e1 => by go_simp <;> (with_reducible rfl)) hS ?_
      simp only [putS]
      refine takeE 4 (some 43) rfl rfl (fun w e1 => by go_simp <;> (with_reducible rfl)) hS ?_
      simp only [putS]
      refine wpAnyH_ready (rs := [5]) (by kernel_rfl) (by simp) (AllReadyH.cons rfl (fun K6 hK6 => ?_) AllReadyH.nil)
      rw [if_pos (by kernel_rfl)]
      go_simp
      refine hK6.out _ _ (by go_simp) (fun hS => ?_)
      try simp only [putS, List.getElem_toArray, List.getElem_cons_zero, List.getElem_cons_succ]
      refine takeE 6 (some 3) rfl rfl (fun w e1 => by go_simp <;> (with_reducible rfl)) hS ?_
      simp only [putS]
      refine takeE 7 (some 4) rfl rfl (fun w e1 => by go_simp <;> (with_reducible rfl)) hS ?_
      simp only [putS]
      refine wpAnyH_done (by kernel_rfl) ?_ _
      go_wp2_with fail
      have hf1 := blkset (blkset HQ2.out 0 (.slice none 0 0)) 1 (.slice none 0 0)
      simp only [List.setIfInBounds_toArray, List.set_cons_zero, List.set_cons_succ] at hf1
      have hf2 := drewH hf1
      refine bodyPost_ret (results_cell2 rfl _ _ w.heap.size 25 #[.slice none 0 0, .slice none 0 0] (0, 0) _ rfl hf2 Try.underlying25 rfl (by kernel_rfl) _ _ rfl rfl) rfl ?_
      unfold DecPost
      refine ⟨(((((((But.refl No w).alloc (.cells #[.slice none 0 0, .slice none 0 0] 25)).alloc (.cells #[.slice A bs.length cp, .int .i64 0, .int .i64 0] 72)).trans_ HB3.out (fun k hk (e : k = w.heap.size + 1) => by omega))).setCell (p := ⟨w.heap.size, 0, none⟩) (.inr (Nat.le_refl _)) (.slice none 0 0)).setCell (p := ⟨w.heap.size, 1, none⟩) (.inr (Nat.le_refl _)) (.slice none 0 0)).drew, ?_⟩
      have h1 : decPlan bs = none := by unfold decPlan; rw [HT.out]; exact if_neg (by simp [hok])
      have h2 : decCount bs = planC bs + riseTo ts ts.length := by unfold decCount; rw [HT.out]
      have h3 : decErr bs = 180 := by unfold decErr; rw [HT.out]; exact if_neg (by simp [hok])
      rw [h1, h2, h3]
      exact rfl
end Go.Proofs.Ytoaopjbgaehpfaa.G
end
section
/- append to a row of the call's own, up to the last place that the kit's law knows. -/
namespace Go.Proofs.Ytoaopjbgaehpfaa.G
open Go.RowKit
set_option linter.unusedVariables false
theorem El.appendW {P : Program} {T Ts : TypeId} {α : Type} (E : El P T Ts α) {ops : Array Oper} {rest : List Oper} {o : Oper} {a : Act} {W : World} {Q : Exit → Act → World → Prop} (hgd : o.guard = none) (s y : Operand)
    (ho : o.op = .call { callee := .builtin .append, args := #[s, y], argTypes := #[Ts, Ts] }) (hty : o.type = Ts)
    (base : Nat) (v : Value) (l : List α) (hs : a.eval s = v) (hI : E.Own W base v l) (ad : Addr) (m c : Nat) (ns : List α) (hm : ns.length = m) (hpos : 0 < m) (hy : a.eval y = .slice (some ad) m c)
    (hc : ∀ j u, (E.cells ns)[j]? = some u → W.cell? (ad.add j) = some u) (hw : 0 < E.wd) (hl : (l.length + m) * E.wd ≤ 140737488355328) (hb : base ≤ W.heap.size)
    (h : ∀ g2 c2 w', E.Own w' base (.slice (some ⟨g2, 0, none⟩) (l.length + m) c2) (l ++ ns) → W.grownBy w' v.ownBlock → (v.ownBlock = some g2 ∨ g2 = W.heap.size) → wpList P ops Q rest (a.put o.dst (.slice (some ⟨g2, 0, none⟩) (l.length + m) c2)) w') : wpList P ops Q (o :: rest) a W := by
  obtain ⟨i, h1, h2, h3, h4⟩ := info_get E.hi
  have hn : l.length + m ≤ 140737488355328 := Nat.le_trans (Nat.le_mul_of_pos_right _ hw) hl
  refine wpList_plain hgd fun _ hK => wp_append_lies W s y Ts ho base T i E.zero E.sz E.wd E.hu h1 h2 h3 h4 E.hzs E.hpos v l.length (E.cells l) hs hI ad m c (E.cells ns) hy (by rw [E.cells_length, hm]) hc (E.cells_all ns) hpos (by unfold maxLen; omega) hl hb _ rfl (fun g cap w' h5 h6 h7 _ => hK _ _ (h g cap w' ?_ h6 h7))
  unfold Own
  rw [List.length_append, hm, E.cells_append]
  exact h5
/-- Elements that lie in a block that was just made. -/
theorem El.cells_new {P : Program} {T Ts : TypeId} {α : Type} (E : El P T Ts α) {W : World} {g : Nat} {cs : Array Value} {t : TypeId} {ns : List α} (hb : W.heap[g]? = some (.cells cs t (0, 0))) (hcs : cs.toList = E.cells ns) :
    ∀ j u, (E.cells ns)[j]? = some u → W.cell? ((⟨g, 0, none⟩ : Addr).add j) = some u := by
  intro j u hj
  rw [addr_add, cell_of_row W g _ cs _ _ hb, ← Array.getElem?_toList, hcs, Nat.zero_add]
  exact hj
end Go.Proofs.Ytoaopjbgaehpfaa.G
end
section
/- Lists copied into new memory. -/
namespace Go.Proofs.Ytoaopjbgaehpfaa.G
open Go.RowKit
attribute [local simp, local go_sem] alloc_drewN setCell_drewN
set_option linter.unusedVariables false
set_option linter.unusedSimpArgs false
set_option maxRecDepth 100000
/-- append of nothing. -/
theorem run_append_none {P : Program} (w : World) (t ty e : TypeId) (i : TypeInfo) (ht : P.underlying t = some (.slice e)) (hi : P.info? e = some i) (b : Addr) (A : Option Addr) (c : Nat) :
    (Builtin.append_ #[t, t] ty #[.slice (some b) 0 0, .slice A 0 c]).run P w = .ok (.slice (some b) 0 0) w := by
  cases A <;> simp [Builtin.append_, run_underlying ht, sizeOf, typeInfo, hi, Builtin.lenOf, Builtin.firstCells, storeCells, loadCells, loadCellsFrom]
theorem El.appendNone {P : Program} {T Ts : TypeId} {α : Type} (E : El P T Ts α) {ops : Array Oper} {rest : List Oper} {o : Oper} {a : Act} {W : World} {Q : Exit → Act → World → Prop} (hgd : o.guard = none) (s y : Operand)
    (ho : o.op = .call { callee := .builtin .append, args := #[s, y], argTypes := #[Ts, Ts] }) (b : Addr) (hs : a.eval s = .slice (some b) 0 0) (A : Option Addr) (c : Nat) (hy : a.eval y = .slice A 0 c)
    (h : wpList P ops Q rest (a.put o.dst (.slice (some b) 0 0)) W) : wpList P ops Q (o :: rest) a W := by
  obtain ⟨i, h1, h2, h3, h4⟩ := info_get E.hi
  refine wpList_plain hgd fun _ hK => ?_
  unfold Oper.wp execOp
  simp only [ho, resolve, invoke, builtin, Sem.run_bind, Sem.run_pure, Result.andThen_ok, List.map_toArray, List.map_cons, List.map_nil, hs, hy, run_append_none W Ts o.type T i E.hu h1 b A c]
  exact hK _ _ h
/-- Elements that lie from a place on. -/
def El.Lies {P : Program} {T Ts : TypeId} {α : Type} (E : El P T Ts α) (w : World) (A : Option Addr) (l : List α) : Prop := l ≠ [] → ∃ ad, A = some ad ∧ ∀ j u, (E.cells l)[j]? = some u → w.cell? (ad.add j) = some u
theorem El.Own.lies {P : Program} {T Ts : TypeId} {α : Type} {E : El P T Ts α} {w : World} {base n c : Nat} {A : Option Addr} {l : List α} (h : E.Own w base (.slice A n c) l) : E.Lies w A l := fun hl => by
  rcases h.form with ⟨_, h0⟩ | ⟨g, c', hv, _⟩
  · exact absurd h0 hl
  · injection hv with h1 h2 h3
    subst h1 h2 h3
    refine ⟨_, rfl, fun j u hj => ?_⟩
    have h' : E.Own w base (.slice (some ⟨g, 0, none⟩) l.length c) ([] ++ l) := h
    have := h'.part j u hj
    rw [show ([] : List α).length * E.sz = 0 from by simp] at this
    exact this
/-- Of elements of one cell. -/
theorem lies1 {P : Program} {T Ts : TypeId} {α : Type} {E : El P T Ts α} {w : World} {A : Option Addr} {l : List α} (en : α → Value) (he : ∀ x, E.enc x = [en x]) (h : ∀ i (hi : i < l.length), ∃ ad, A = some ad ∧ w.cell? (ad.add i) = some (en l[i])) : E.Lies w A l := fun hl => by
  have hp : 0 < l.length := List.length_pos_iff.2 hl
  obtain ⟨ad, hA, _⟩ := h 0 hp
  have hs : E.sz = 1 := by rw [← E.henc l[0], he]; rfl
  refine ⟨ad, hA, fun j u hj => ?_⟩
  have hjl : j < l.length := by
    have := (List.getElem?_eq_some_iff.1 hj).1
    rw [E.cells_length, hs] at this
    omega
  have h2 := E.cells_at l j l[j] 0 (List.getElem?_eq_getElem hjl) E.hpos
  rw [hs, Nat.mul_one, Nat.add_zero, hj, he] at h2
  obtain ⟨ad', hA', k⟩ := h j hjl
  rw [hA] at hA'
  injection hA' with e
  subst e
  rw [k]
  exact h2.symm
theorem add_off (a : Addr) (i j : Nat) : (⟨(a.add i).block, (a.add i).off + (j + 1), none⟩ : Addr) = a.add (i + (j + 1)) := by
  have h1 : (a.add i).block = a.block := by unfold Addr.add; split <;> rfl
  have h2 : (a.add i).off = a.off + i := by unfold Addr.add; split <;> simp_all
  rw [h1, h2]
  unfold Addr.add
  rw [if_neg (by omega), Nat.add_assoc]
/-- Of elements of two cells. -/
theorem lies2 {P : Program} {T Ts : TypeId} {α : Type} {E : El P T Ts α} {w : World} {A : Option Addr} {l : List α} (en en' : α → Value) (he : ∀ x, E.enc x = [en x, en' x]) (h : ∀ i (hi : i < l.length), ∃ ad, A = some ad ∧ w.cell? (ad.add (i * 2)) = some (en l[i]) ∧ w.cell? ⟨(ad.add (i * 2)).block, (ad.add (i * 2)).off + 1, none⟩ = some (en' l[i])) : E.Lies w A l := fun hl => by
  have hp : 0 < l.length := List.length_pos_iff.2 hl
  obtain ⟨ad, hA, _⟩ := h 0 hp
  have hs : E.sz = 2 := by rw [← E.henc l[0], he]; rfl
  refine ⟨ad, hA, fun j u hj => ?_⟩
  have hjl : j / 2 < l.length := by
    have := (List.getElem?_eq_some_iff.1 hj).1
    rw [E.cells_length, hs] at this
    omega
  have h2 := E.cells_at l (j / 2) l[j / 2] (j % 2) (List.getElem?_eq_getElem hjl) (by rw [hs]; omega)
  rw [hs, show j / 2 * 2 + j % 2 = j from by omega, hj, he] at h2
  obtain ⟨ad', hA', k1, k2⟩ := h (j / 2) hjl
  rw [hA] at hA'
  injection hA' with e
  subst e
  rw [show (1 : Nat) = 0 + 1 from rfl, add_off] at k2
  have hm : j % 2 = 0 ∨ j % 2 = 1 := by omega
  rcases hm with m | m
  · rw [m] at h2
    rw [show j = j / 2 * 2 from by omega, k1]
    exact h2.symm
  · rw [m] at h2
    rw [show j = j / 2 * 2 + 1 from by omega, k2]
    exact h2.symm
set_option maxHeartbeats 4000000 in
theorem copyTexts0 (A : Option Addr) (c : Nat) (l : List ByteArray) (w : World) (h : sgE.Lies w A l) (hl : l.length * 16 ≤ 140737488355328) :
    Calls Try.prog 25 #[.slice A l.length c] w fun e w' => ∃ v, e = .returned v ∧ sgE.Own w' w.heap.size v l ∧ But No w w' := by
  have H := Lib.hid h
  clear h
  by_cases h0 : l = []
  · subst h0
    go_enter Try.func25, Try.ntmps25
    go_wp2_with (at_builtin; refine sgE.appendNone rfl _ _ rfl ⟨w.heap.size, 0, none⟩ rfl A c rfl ?_)
    go_ret
    exact ⟨_, rfl, El.Own.fresh w _ (Nat.le_refl _), (But.refl No w).alloc _⟩
  · obtain ⟨ad, rfl, hc⟩ := H.out h0
    have hp : 0 < l.length := List.length_pos_iff.2 h0
    have HC := Lib.hid hc
    obtain ⟨n, hn⟩ : ∃ n, l.length = n := ⟨_, rfl⟩
    have HN := Lib.hid hn
    rw [hn] at hl hp ⊢
    clear hc hn h0 H
    go_enter Try.func25, Try.ntmps25
    go_wp2_with (at_builtin; refine sgE.appendW rfl _ _ rfl rfl w.heap.size (.slice (some ⟨w.heap.size, 0, none⟩) 0 0) [] rfl (El.Own.fresh w _ (Nat.le_refl _)) ad n c l HN.out hp rfl (fun j u hj => (((But.refl No w).alloc _).cell_some (HC.out j u hj) (fun c => c))) (by decide) (by show (0 + n) * 16 ≤ _; omega) (by simp) ?_; intro g2 c2 w2 hown hgrow _)
    go_ret
    refine ⟨_, rfl, ?_, ?_⟩
    · simp only [List.length_nil, Nat.zero_add, List.nil_append] at hown
      exact hown
    · exact El.Own.grown (E := sgE) ((But.refl No w).alloc _) (El.Own.fresh w _ (Nat.le_refl _)) hgrow (Nat.le_refl _)
set_option maxHeartbeats 4000000 in
theorem copyVars0 (A : Option Addr) (c : Nat) (l : List (Int × Int)) (w : World) (h : pvE.Lies w A l) (hl : l.length * 16 ≤ 140737488355328) :
    Calls Try.prog 26 #[.slice A l.length c] w fun e w' => ∃ v, e = .returned v ∧ pvE.Own w' w.heap.size v l ∧ But No w w' := by
  have H := Lib.hid h
  clear h
  by_cases h0 : l = []
  · subst h0
    go_enter Try.func26, Try.ntmps26
    go_wp2_with (at_builtin; refine pvE.appendNone rfl _ _ rfl ⟨w.heap.size, 0, none⟩ rfl A c rfl ?_)
    go_ret
    exact ⟨_, rfl, El.Own.fresh w _ (Nat.le_refl _), (But.refl No w).alloc _⟩
  · obtain ⟨ad, rfl, hc⟩ := H.out h0
    have hp : 0 < l.length := List.length_pos_iff.2 h0
    have HC := Lib.hid hc
    obtain ⟨n, hn⟩ : ∃ n, l.length = n := ⟨_, rfl⟩
    have HN := Lib.hid hn
    rw [hn] at hl hp ⊢
    clear hc hn h0 H
    go_enter Try.func26, Try.ntmps26
    go_wp2_with (at_builtin; refine pvE.appendW rfl _ _ rfl rfl w.heap.size (.slice (some ⟨w.heap.size, 0, none⟩) 0 0) [] rfl (El.Own.fresh w _ (Nat.le_refl _)) ad n c l HN.out hp rfl (fun j u hj => (((But.refl No w).alloc _).cell_some (HC.out j u hj) (fun c => c))) (by decide) (by show (0 + n) * 16 ≤ _; omega) (by simp) ?_; intro g2 c2 w2 hown hgrow _)
    go_ret
    refine ⟨_, rfl, ?_, ?_⟩
    · simp only [List.length_nil, Nat.zero_add, List.nil_append] at hown
      exact hown
    · exact El.Own.grown (E := pvE) ((But.refl No w).alloc _) (El.Own.fresh w _ (Nat.le_refl _)) hgrow (Nat.le_refl _)
set_option maxHeartbeats 4000000 in
theorem copyInts0 (A : Option Addr) (c : Nat) (l : List Int) (w : World) (h : inE.Lies w A l) (hl : l.length * 8 ≤ 140737488355328) :
    Calls Try.prog 27 #[.slice A l.length c] w fun e w' => ∃ v, e = .returned v ∧ inE.Own w' w.heap.size v l ∧ But No w w' := by
  have H := Lib.hid h
  clear h
  by_cases h0 : l = []
  · subst h0
    go_enter Try.func27, Try.ntmps27
    go_wp2_with (at_builtin; refine inE.appendNone rfl _ _ rfl ⟨w.heap.size, 0, none⟩ rfl A c rfl ?_)
    go_ret
    exact ⟨_, rfl, El.Own.fresh w _ (Nat.le_refl _), (But.refl No w).alloc _⟩
  · obtain ⟨ad, rfl, hc⟩ := H.out h0
    have hp : 0 < l.length := List.length_pos_iff.2 h0
    have HC := Lib.hid hc
    obtain ⟨n, hn⟩ : ∃ n, l.length = n := ⟨_, rfl⟩
    have HN := Lib.hid hn
    rw [hn] at hl hp ⊢
    clear hc hn h0 H
    go_enter Try.func27, Try.ntmps27
    go_wp2_with (at_builtin; refine inE.appendW rfl _ _ rfl rfl w.heap.size (.slice (some ⟨w.heap.size, 0, none⟩) 0 0) [] rfl (El.Own.fresh w _ (Nat.le_refl _)) ad n c l HN.out hp rfl (fun j u hj => (((But.refl No w).alloc _).cell_some (HC.out j u hj) (fun c => c))) (by decide) (by show (0 + n) * 8 ≤ _; omega) (by simp) ?_; intro g2 c2 w2 hown hgrow _)
    go_ret
    refine ⟨_, rfl, ?_, ?_⟩
    · simp only [List.length_nil, Nat.zero_add, List.nil_append] at hown
      exact hown
    · exact El.Own.grown (E := inE) ((But.refl No w).alloc _) (El.Own.fresh w _ (Nat.le_refl _)) hgrow (Nat.le_refl _)
set_option maxHeartbeats 4000000 in
theorem copySteps0 (A : Option Addr) (c : Nat) (l : List (Int × Int)) (w : World) (h : psE.Lies w A l) (hl : l.length * 16 ≤ 140737488355328) :
    Calls Try.prog 28 #[.slice A l.length c] w fun e w' => ∃ v, e = .returned v ∧ psE.Own w' w.heap.size v l ∧ But No w w' := by
  have H := Lib.hid h
  clear h
  by_cases h0 : l = []
  · subst h0
    go_enter Try.func28, Try.ntmps28
    go_wp2_with (at_builtin; refine psE.appendNone rfl _ _ rfl ⟨w.heap.size, 0, none⟩ rfl A c rfl ?_)
    go_ret
    exact ⟨_, rfl, El.Own.fresh w _ (Nat.le_refl _), (But.refl No w).alloc _⟩
  · obtain ⟨ad, rfl, hc⟩ := H.out h0
    have hp : 0 < l.length := List.length_pos_iff.2 h0
    have HC := Lib.hid hc
    obtain ⟨n, hn⟩ : ∃ n, l.length = n := ⟨_, rfl⟩
    have HN := Lib.hid hn
    rw [hn] at hl hp ⊢
    clear hc hn h0 H
    go_enter Try.func28, Try.ntmps28
    go_wp2_with (at_builtin; refine psE.appendW rfl _ _ rfl rfl w.heap.size (.slice (some ⟨w.heap.size, 0, none⟩) 0 0) [] rfl (El.Own.fresh w _ (Nat.le_refl _)) ad n c l HN.out hp rfl (fun j u hj => (((But.refl No w).alloc _).cell_some (HC.out j u hj) (fun c => c))) (by decide) (by show (0 + n) * 16 ≤ _; omega) (by simp) ?_; intro g2 c2 w2 hown hgrow _)
    go_ret
    refine ⟨_, rfl, ?_, ?_⟩
    · simp only [List.length_nil, Nat.zero_add, List.nil_append] at hown
      exact hown
    · exact El.Own.grown (E := psE) ((But.refl No w).alloc _) (El.Own.fresh w _ (Nat.le_refl _)) hgrow (Nat.le_refl _)
end Go.Proofs.Ytoaopjbgaehpfaa.G
end
