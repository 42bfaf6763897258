/- wire's reader: a job. -/
import Derived.Test.YtoaopjbgaehpfaaQJy
namespace Go.Proofs.Ytoaopjbgaehpfaa.G
open Go.RowKit
attribute [local simp, local go_sem] alloc_drewN setCell_drewN
set_option linter.unusedVariables false
set_option linter.unusedSimpArgs false
set_option maxRecDepth 100000
def mkJob (ns : List Int) (c : Int) (rs : List (List (Int × Int) × Int)) (vs : List (Int × Int)) (ps : List Int) : JobP :=
  ⟨⟨ns.getD 0 0, ns.getD 1 0, ns.getD 2 0, ns.getD 3 0, ns.getD 4 0⟩, c == 1, rs, vs, ps⟩
def jobR3 (bs : List Int) (ns : List Int) (c : Int) (a2 : Nat) : RR JobP := rbind (rowsR bs (ruleR bs) a2) fun rs a3 => rbind (rowsR bs (varR bs) a3) fun vs a4 => rbind (rowsR bs (numberR bs) a4) fun ps a5 => .inr (mkJob ns c rs vs ps, a5)
def jobR2 (bs : List Int) (ns : List Int) (a1 : Nat) : RR JobP := rbind (byteR bs a1) fun c a2 => if c ≤ 1 then jobR3 bs ns c a2 else .inl (182, a2)
def jobR (bs : List Int) (a : Nat) : RR JobP := rbind (repR (numberR bs) 5 a) fun ns a1 => jobR2 bs ns a1
def jobArr (l : List Int) (al : Bool) : Array Value := #[.int .i64 (l.getD 0 0), .int .i64 (l.getD 1 0), .int .i64 (l.getD 2 0), .int .i64 (l.getD 3 0), .bool al, .int .i64 (l.getD 4 0), .slice none 0 0, .slice none 0 0, .slice none 0 0]
theorem jobArr0 (x : Int) : (jobArr [] false).setIfInBounds 0 (.int .i64 x) = jobArr ([] ++ [x]) false := by simp [jobArr]
structure JSt (g : Nat) (A : Option Addr) (bs : List Int) (cp : Nat) (d : Int) (w0 : World) (rb t2 o : Nat) (a : Nat) (cs : Array Value) (W : World) : Prop where
  rdr : Rdr g A bs cp d a W
  but : But (One g) w0 W
  rbx : W.heap[rb]? = some (.cells #[.pointer (some ⟨g, 0, none⟩)] 70 (0, 0))
  res : W.heap[t2]? = some (.cells (jobArr [] false) 52 (0, 0))
  box : W.heap[o]? = some (.cells cs 52 (0, 0))
def fivePtr (o : Nat) : Array Value := #[.pointer (some ⟨o, 0, none⟩), .pointer (some ⟨o, 1, none⟩), .pointer (some ⟨o, 2, none⟩), .pointer (some ⟨o, 3, none⟩), .pointer (some ⟨o, 5, none⟩)]
theorem Rdr.old {g : Nat} {A : Option Addr} {bs : List Int} {cp : Nat} {d : Int} {a : Nat} {w : World} (h : Rdr g A bs cp d a w) (hB : Base A bs cp d) : ∀ ad, A = some ad → ad.block < w.heap.size := fun ad e => by
  obtain ⟨ad', h1, h2, _⟩ := h.far 0 hB.ne
  rw [e] at h1
  injection h1 with h1
  subst h1
  have := block_lt_of_cell h2
  rwa [addr_blk] at this
theorem repR_in {α : Type} {f : Nat → RR α} {N : Nat} (hf : ∀ a x a', f a = .inr (x, a') → a' ≤ N) : ∀ (n a : Nat) (l : List α) (a' : Nat), a ≤ N → repR f n a = .inr (l, a') → a' ≤ N
  | 0, a, l, a', h, hh => by
    injection hh with hh
    injection hh with _ hh
    omega
  | n + 1, a, l, a', h, hh => by
    obtain ⟨x, a1, h1, h2⟩ := rbind_in hh
    obtain ⟨l2, a2, h3, h4⟩ := rbind_in h2
    have i1 := hf a x a1 h1
    have i2 := repR_in hf n a1 l2 a2 i1 h3
    injection h4 with h4
    injection h4 with _ h4
    omega
theorem rowsR_in {α : Type} {f : Nat → RR α} {bs : List Int} (hB : Bytes bs) (hf : ∀ a x a', f a = .inr (x, a') → a' ≤ bs.length) {a : Nat} {l : List α} {a' : Nat} (h : rowsR bs f a = .inr (l, a')) : a' ≤ bs.length := by
  obtain ⟨n, a1, h1, h2⟩ := rbind_in h
  exact repR_in hf _ _ _ _ (numberR_in hB h1).2.2.2 h2
theorem ruleR_in {bs : List Int} (hB : Bytes bs) {a : Nat} {x : List (Int × Int) × Int} {a' : Nat} (h : ruleR bs a = .inr (x, a')) : a' ≤ bs.length := by
  obtain ⟨n, a1, h1, h2⟩ := rbind_in h
  obtain ⟨l, a2, h3, h4⟩ := rbind_in h2
  have := rowsR_in hB (fun a x a' hh => (stepR_in hB hh).2) h3
  injection h4 with h4
  injection h4 with _ h4
  omega
/-- What stays while rows of a job are read. -/
structure DoneP (g o : Nat) (T : TypeId) (D : World → Prop) : Prop where
  one : ∀ W W', But (One g) W W' → D W → D W'
  lay : ∀ W W', (∃ cs, W.heap[o]? = some (.cells cs 52 (0, 0))) → D W → But (Lay g o T W) W W' → D W'
def XR (D : World → Prop) (o : Nat) (ls : List (List (Int × Int) × Int)) (lv : List ((Option Addr × Nat × Nat) × Int)) (W : World) : Prop := RulesDone (o + 1) ls lv W ∧ D W
def XD {α : Type} (D : World → Prop) (ls lv : List α) (W : World) : Prop := lv = ls ∧ D W
theorem RulesDone.one {g base : Nat} {ls : List (List (Int × Int) × Int)} {lv : List ((Option Addr × Nat × Nat) × Int)} {W W' : World} (h : RulesDone base ls lv W) (hb : But (One g) W W') (hg : g < base) : RulesDone base ls lv W' :=
  All2.imp (fun a b hh => ⟨hh.1.but hb (fun k h1 h2 (e : k = g) => by omega), hh.2⟩) h
theorem RulesDone.lay {g o base : Nat} {T : TypeId} {ls : List (List (Int × Int) × Int)} {lv : List ((Option Addr × Nat × Nat) × Int)} {W W' : World} (h : RulesDone base ls lv W) (hb : But (Lay g o T W) W W') (hT : 79 ≠ T) (hg : g < base) (ho : o < base) : RulesDone base ls lv W' :=
  All2.imp (fun a b hh => ⟨own_lay hh.1 hb hT hg (.inl ho), hh.2⟩) h
section
variable {g : Nat} {A : Option Addr} {cp : Nat} {bs : List Int} {a : Nat} {d : Int} {w0 W : World} {rb o : Nat} {cs : Array Value}
theorem rowsJobR {D : World → Prop} (hr : Rdr g A bs cp d a W) (hB : Base A bs cp d) (hAo : ∀ ad, A = some ad → ad.block < w0.heap.size) (hbut : But (One g) w0 W) (hgw : g < w0.heap.size) (hD : DoneP g o 58 D) (hDW : D W)
    (hrb : W.heap[rb]? = some (.cells #[.pointer (some ⟨g, 0, none⟩)] 70 (0, 0))) (ho : W.heap[o]? = some (.cells cs 52 (0, 0))) (hcs : cs.setIfInBounds 6 (.slice none 0 0) = cs) (hsz : 6 < cs.size) (hol : w0.heap.size ≤ o) (hrbg : rb ≠ g) (hog : o ≠ g) :
    Calls Try.prog 46 #[.pointer (some ⟨g, 0, none⟩), .func (.func 60) #[] #[.pointer (some ⟨o, 0, none⟩), .pointer (some ⟨rb, 0, none⟩)]] W
      (RowPost (BadR g A bs cp d w0) (BoxInv g A bs cp d w0 rb o 52 cs 6 rlE (XR D o)) (rowsR bs (ruleR bs) a)) := by
  refine rows1 hr.rd hr.far hB.bytes hr.le hB.dr 60 _ (ruleR bs) _ _ (enters Try.func60 (by kernel_rfl) (by kernel_rfl)) ?_ ?_ ?_
  · intro a1 w1 hle hb1 hr1
    refine ⟨hr.next hb1 hr1 hle, hbut.trans hb1, (hb1.block rb (lt_of_block hrb) hrbg).trans hrb, .slice none 0 0, [], ?_, El.own_nil _ _, rfl, trivial, hD.one _ _ hb1 hDW⟩
    rw [hcs]
    exact (hb1.block o (lt_of_block ho) hog).trans ho
  · intro a1 w1 hb1 hr1
    exact ⟨hr1, hbut.trans hb1⟩
  · intro a1 l w1 hl hinv
    refine jobRule (ruleR bs) (fun W x x' W' => psE.Own W' W.heap.size (.slice x'.1.1 x'.1.2.1 x'.1.2.2) x.1 ∧ x'.2 = x.2) hinv hl hsz hol hgw hAo (by decide) (fun W hW => rule0 hW hB (hW.old hB)) (fun x a' h => ruleR_in hB.bytes h) ?_ ?_
    · rintro ls lv W W' hb ⟨h1, h2⟩
      exact ⟨h1.one hb (by omega), hD.one _ _ hb h2⟩
    · rintro ls lv x x' W0 W W' _ _ ho0 hob ⟨h1, h2⟩ ⟨hy1, hy2⟩ hb
      exact ⟨All2.snoc ⟨own_lay (own_mono hy1 (by omega) : psE.Own W (o + 1) _ _) hb (by decide) (by omega) (.inl (by omega)), hy2⟩ (h1.lay hb (by decide) (by omega) (by omega)), hD.lay _ _ hob h2 hb⟩
theorem rowsJobV {D : World → Prop} (hr : Rdr g A bs cp d a W) (hB : Base A bs cp d) (hAo : ∀ ad, A = some ad → ad.block < w0.heap.size) (hbut : But (One g) w0 W) (hgw : g < w0.heap.size) (hD : DoneP g o 81 D) (hDW : D W)
    (hrb : W.heap[rb]? = some (.cells #[.pointer (some ⟨g, 0, none⟩)] 70 (0, 0))) (ho : W.heap[o]? = some (.cells cs 52 (0, 0))) (hcs : cs.setIfInBounds 7 (.slice none 0 0) = cs) (hsz : 7 < cs.size) (hol : w0.heap.size ≤ o) (hrbg : rb ≠ g) (hog : o ≠ g) :
    Calls Try.prog 46 #[.pointer (some ⟨g, 0, none⟩), .func (.func 62) #[] #[.pointer (some ⟨rb, 0, none⟩), .pointer (some ⟨o, 0, none⟩)]] W
      (RowPost (BadR g A bs cp d w0) (BoxInv g A bs cp d w0 rb o 52 cs 7 pvE (XD D)) (rowsR bs (varR bs) a)) := by
  refine rows1 hr.rd hr.far hB.bytes hr.le hB.dr 62 _ (varR bs) _ _ (enters Try.func62 (by kernel_rfl) (by kernel_rfl)) ?_ ?_ ?_
  · intro a1 w1 hle hb1 hr1
    refine ⟨hr.next hb1 hr1 hle, hbut.trans hb1, (hb1.block rb (lt_of_block hrb) hrbg).trans hrb, .slice none 0 0, [], ?_, El.own_nil _ _, rfl, rfl, hD.one _ _ hb1 hDW⟩
    rw [hcs]
    exact (hb1.block o (lt_of_block ho) hog).trans ho
  · intro a1 w1 hb1 hr1
    exact ⟨hr1, hbut.trans hb1⟩
  · intro a1 l w1 hl hinv
    refine jobVar hinv hB hl hsz hol hgw hAo ?_ ?_
    · rintro ls lv W W' hb ⟨h1, h2⟩
      exact ⟨h1, hD.one _ _ hb h2⟩
    · rintro ls lv x W W' _ hob ⟨h1, h2⟩ hb
      exact ⟨by rw [h1], hD.lay _ _ hob h2 hb⟩
theorem rowsJobP {D : World → Prop} (hr : Rdr g A bs cp d a W) (hB : Base A bs cp d) (hAo : ∀ ad, A = some ad → ad.block < w0.heap.size) (hbut : But (One g) w0 W) (hgw : g < w0.heap.size) (hD : DoneP g o 3 D) (hDW : D W)
    (hrb : W.heap[rb]? = some (.cells #[.pointer (some ⟨g, 0, none⟩)] 70 (0, 0))) (ho : W.heap[o]? = some (.cells cs 52 (0, 0))) (hcs : cs.setIfInBounds 8 (.slice none 0 0) = cs) (hsz : 8 < cs.size) (hol : w0.heap.size ≤ o) (hrbg : rb ≠ g) (hog : o ≠ g) :
    Calls Try.prog 46 #[.pointer (some ⟨g, 0, none⟩), .func (.func 63) #[] #[.pointer (some ⟨o, 0, none⟩), .pointer (some ⟨rb, 0, none⟩)]] W
      (RowPost (BadR g A bs cp d w0) (BoxInv g A bs cp d w0 rb o 52 cs 8 inE (XD D)) (rowsR bs (numberR bs) a)) := by
  refine rows1 hr.rd hr.far hB.bytes hr.le hB.dr 63 _ (numberR bs) _ _ (enters Try.func63 (by kernel_rfl) (by kernel_rfl)) ?_ ?_ ?_
  · intro a1 w1 hle hb1 hr1
    refine ⟨hr.next hb1 hr1 hle, hbut.trans hb1, (hb1.block rb (lt_of_block hrb) hrbg).trans hrb, .slice none 0 0, [], ?_, El.own_nil _ _, rfl, rfl, hD.one _ _ hb1 hDW⟩
    rw [hcs]
    exact (hb1.block o (lt_of_block ho) hog).trans ho
  · intro a1 w1 hb1 hr1
    exact ⟨hr1, hbut.trans hb1⟩
  · intro a1 l w1 hl hinv
    refine jobPred (numberR bs) (fun _ x x' _ => x' = x) hinv hl hsz hol hgw hAo (by decide) (fun W hW => (number0 hW.rd hW.far hB.bytes hW.le hB.dr).mono fun e W' hp => hp.imp fun x a2 _ _ he => ⟨x, he, rfl⟩) (fun x a' h => (numberR_in hB.bytes h).2.2.2) ?_ ?_
    · rintro ls lv W W' hb ⟨h1, h2⟩
      exact ⟨h1, hD.one _ _ hb h2⟩
    · rintro ls lv x x' W0 W W' _ _ _ hob ⟨h1, h2⟩ rfl hb
      exact ⟨by rw [h1], hD.lay _ _ hob h2 hb⟩
end
theorem DoneP.and {g o : Nat} {T : TypeId} {D D' : World → Prop} (h : DoneP g o T D) (h' : DoneP g o T D') : DoneP g o T (fun W => D W ∧ D' W) :=
  ⟨fun W W' hb hh => ⟨h.one W W' hb hh.1, h'.one W W' hb hh.2⟩, fun W W' ho hh hb => ⟨h.lay W W' ho hh.1 hb, h'.lay W W' ho hh.2 hb⟩⟩
theorem doneRes {g o t2 : Nat} {T : TypeId} {cs : Array Value} (hT : 52 ≠ T) (h1 : t2 ≠ g) (h2 : t2 ≠ o) : DoneP g o T (fun W => W.heap[t2]? = some (.cells cs 52 (0, 0))) :=
  ⟨fun W W' hb hh => (hb.block t2 (lt_of_block hh) h1).trans hh, fun W W' _ hh hb => (hb.block t2 (lt_of_block hh) (Lay.no h1 h2 hh hT)).trans hh⟩
theorem doneOwn {g o base : Nat} {T T' Ts : TypeId} {α : Type} {E : El Try.prog T' Ts α} {v : Value} {l : List α} (hT : T' ≠ T) (hJ : 52 ≠ T') (hg : g < base) : DoneP g o T (fun W => E.Own W base v l) :=
  ⟨fun W W' hb hh => hh.but hb (fun k h1 h2 (e : k = g) => by omega), fun W W' ⟨cs, ho⟩ hh hb => own_lay hh hb hT hg (.inr ⟨cs, _, ho, hJ⟩)⟩
theorem doneRules {g o base : Nat} {T : TypeId} {ls : List (List (Int × Int) × Int)} {lv : List ((Option Addr × Nat × Nat) × Int)} (hT : 79 ≠ T) (hg : g < base) (ho : o < base) : DoneP g o T (fun W => RulesDone base ls lv W) :=
  ⟨fun W W' hb hh => hh.one hb hg, fun W W' _ hh hb => hh.lay hb hT hg ho⟩
theorem jobArr4 (l : List Int) (b : Bool) : (jobArr l false).setIfInBounds 4 (.bool b) = jobArr l b := by simp [jobArr]
def FiveAt (g : Nat) (A : Option Addr) (bs : List Int) (cp : Nat) (d : Int) (w0 : World) (rb t2 o p5 : Nat) (R : RR (List Int)) (gk : Nat) (v : Value) (wr : World) : Prop :=
  ∃ k a : Nat, ∃ l : List Int, gk = 5 - k ∧ k ≤ 5 ∧ v = .int .i64 (k : Int) ∧ l.length = k ∧ JSt g A bs cp d w0 rb t2 o a (jobArr l false) wr ∧ wr.heap[p5]? = some (.cells (fivePtr o) 101 (0, 0)) ∧ (rbind (repR (numberR bs) (5 - k) a) fun l2 a' => .inr (l ++ l2, a')) = R
theorem own_but1 {P : Program} {T Ts : TypeId} {α : Type} {E : El P T Ts α} {W W' : World} {base t2 : Nat} {v : Value} {l : List α} (h : E.Own W base v l) (hb : But (fun k => k = t2) W W') {cs : Array Value} {t : TypeId} (ht : W.heap[t2]? = some (.cells cs t (0, 0))) (hT : t ≠ T) : E.Own W' base v l :=
  own_at h fun k hk => by
    obtain ⟨h1, h2, cs', hc⟩ := El.typed h k hk
    refine hb.block k h2 (fun (e : k = t2) => ?_)
    rw [e, ht] at hc
    injection hc with hc
    injection hc with _ hc
    exact hT hc
/-- A job that was read lies so. -/
structure JobLies (base : Nat) (x : JobP) (x' : JobV) (W : World) : Prop where
  one : x'.one = x.one
  allow : x'.allow = x.allow
  rules : ∃ lv, rlE.Own W base (.slice x'.rules.1 x'.rules.2.1 x'.rules.2.2) lv ∧ lv.length = x.rules.length ∧ RulesDone base x.rules lv W
  vars : pvE.Own W base (.slice x'.vars.1 x'.vars.2.1 x'.vars.2.2) x.vars
  preds : inE.Own W base (.slice x'.preds.1 x'.preds.2.1 x'.preds.2.2) x.preds
set_option maxHeartbeats 8000000 in
theorem readJob0 {g : Nat} {A : Option Addr} {cp : Nat} {bs : List Int} {at_ : Nat} {d : Int} {w : World} (h : Rdr g A bs cp d at_ w) (hB : Base A bs cp d) (hAo : ∀ ad, A = some ad → ad.block < w.heap.size) :
    Calls Try.prog 50 #[.pointer (some ⟨g, 0, none⟩)] w (RPost g A bs cp d w (One g) (jobR bs at_) fun x e W' => ∃ x' : JobV, e = .returned (.agg #[.int .i64 x'.one.name, .int .i64 x'.one.run, .int .i64 x'.one.stage, .int .i64 x'.one.when_, .bool x'.allow, .int .i64 x'.one.weight, .slice x'.rules.1 x'.rules.2.1 x'.rules.2.2, .slice x'.vars.1 x'.vars.2.1 x'.vars.2.2, .slice x'.preds.1 x'.preds.2.1 x'.preds.2.2]) ∧ JobLies w.heap.size x x' W') := by
  have hd := hB.dr
  have hgl := h.lt
  have HB := Lib.hid hB
  have HAO := Lib.hid hAo
  have H := Lib.hid h
  have hmf : ∀ (fn : Fn) (first cap : Array Value) (w : World), (Instr.makeFunc fn first cap).run Try.prog w = .ok (.func fn first cap) w := fun _ _ _ _ => rfl
  obtain ⟨T, hT⟩ : ∃ T, jobR bs at_ = T := ⟨_, rfl⟩
  obtain ⟨R, hR⟩ : ∃ R, repR (numberR bs) 5 at_ = R := ⟨_, rfl⟩
  rw [hT]
  unfold jobR at hT
  rw [hR] at hT
  have HT := Lib.hid hT
  have HR := Lib.hid hR
  clear h hB hAo hT hR
  go_enter Try.func50, Try.ntmps50
  go_wp2_with fail
  generalize hW : World.alloc (World.alloc (World.alloc (World.alloc w _) _) _) _ = W1
  have hjs : JSt g A bs cp d w w.heap.size (w.heap.size + 1) (w.heap.size + 1 + 1) at_ (jobArr [] false) W1 := by
    rw [← hW]
    refine ⟨(((H.out.alloc _).alloc _).alloc _).alloc _, ((((But.refl _ w).alloc _).alloc _).alloc _).alloc _, blkold (blkold (blkold (heap_alloc_new w _) _) _) _, blkold (blkold (heap_alloc2_newJ w _ _) _) _, blkold (heap_alloc3_newJ w _ _ _) _⟩
  have hp5 : W1.heap[w.heap.size + 1 + 1 + 1]? = some (.cells (fivePtr (w.heap.size + 1 + 1)) 101 (0, 0)) := by
    rw [← hW]
    have := heap_alloc_new (((w.alloc (.cells #[.pointer (some ⟨g, 0, none⟩)] 70)).alloc (.cells (jobArr [] false) 52)).alloc (.cells (jobArr [] false) 52)) (.cells (fivePtr (w.heap.size + 1 + 1)) 101)
    simp only [World.size_alloc] at this
    exact this
  have HJS := Lib.hid hjs
  have HP5 := Lib.hid hp5
  clear hjs hp5 hW H
  obtain ⟨p5, hp5⟩ : ∃ x, w.heap.size + 1 + 1 + 1 = x := ⟨_, rfl⟩
  obtain ⟨o, ho⟩ : ∃ x, w.heap.size + 1 + 1 = x := ⟨_, rfl⟩
  obtain ⟨t2, ht2⟩ : ∃ x, w.heap.size + 1 = x := ⟨_, rfl⟩
  obtain ⟨rb, hrb⟩ : ∃ x, w.heap.size = x := ⟨_, rfl⟩
  rw [hp5, ho] at HP5
  rw [ho, ht2, hrb] at HJS
  rw [hp5, ho, ht2, hrb]
  have b1 : g < rb := by omega
  have b2 : rb < t2 := by omega
  have b3 : t2 < o := by omega
  have b4 : o < p5 := by omega
  have b5 : w.heap.size ≤ rb := by omega
  clear hp5 ho ht2 hrb
  go_loopg [14] 5 (fun gk v wr => FiveAt g A bs cp d w rb t2 o p5 R gk v wr)
  case atStart => exact ⟨0, at_, [], rfl, by decide, rfl, rfl, HJS.out, HP5.out, by rw [HR.out]; exact rbind_inr _⟩
  case round =>
    obtain ⟨k, a, l, hgk, hk5, rfl, hll, hjs, hp, hrr⟩ := hrel
    have HGK := Lib.hid hgk
    have HJ := Lib.hid hjs
    have HP := Lib.hid hp
    have HRR := Lib.hid hrr
    have qrb : wr.cell? ⟨rb, 0, none⟩ = some (.pointer (some ⟨g, 0, none⟩)) := blkcell hjs.rbx 0 (by simp)
    have hol := lt_of_block hjs.box
    clear hgk hjs hp hrr HJS HP5
    have hk : k = 0 ∨ k = 1 ∨ k = 2 ∨ k = 3 ∨ k = 4 ∨ k = 5 := by omega
    rcases hk with rfl | rfl | rfl | rfl | rfl | rfl
    · have hlx := hll
      obtain rfl : l = [] := List.eq_nil_of_length_eq_zero hll
      have qp : wr.cell? ⟨p5, 0, none⟩ = some (.pointer (some ⟨o, 0, none⟩)) := blkcell HP.out 0 (by simp [fivePtr])
      have HN := Lib.hid (number0 HJ.out.rdr.rd HJ.out.rdr.far HB.out.bytes HJ.out.rdr.le hd)
      obtain ⟨r, hr⟩ : ∃ r, numberR bs a = r := ⟨_, rfl⟩
      have hin := fun x a' (e : r = .inr (x, a')) => numberR_in HB.out.bytes (hr.trans e)
      have hrr : rbind r (fun x a' => rbind (repR (numberR bs) 4 a') fun l2 a'' => .inr ([] ++ [x] ++ l2, a'')) = R := by
        rw [← HRR.out, ← hr]
        show _ = rbind (rbind (numberR bs a) fun x a' => rbind (repR (numberR bs) 4 a') fun l a'' => .inr (x :: l, a'')) _
        rw [rbind_assoc]
        congr 1
        funext x a'
        rw [rbind_assoc]
        all_goals congr 1
      rw [hr] at HN
      clear hr
      rcases r with ⟨c, a'⟩ | ⟨x, a'⟩
      · have E := Lib.hid (show T = .inl (c, a') from by rw [← HT.out, ← hrr]; rfl)
        clear hrr hin
        go_wp2_with (first | (go_at_call 59; refine HN.out.mono ?_; rintro e w1 ⟨hb1, rfl, hr1⟩; (have HR1 := Lib.hid hr1); (have HB1 := Lib.hid hb1); clear hb1 hr1))
        exact ⟨rfl, HJ.out.but.trans HB1.out, by rw [E.out]; exact ⟨rfl, HR1.out⟩⟩
      · have HRN := Lib.hid hrr
        have hin2 := hin x a' rfl
        clear hrr hin
        go_wp2_with (first | (go_at_call 59; refine HN.out.mono ?_; rintro e w1 ⟨hb1, rfl, hr1⟩; (have hbx := (hb1.block o hol (by show ¬ o = g; omega)).trans HJ.out.box); (have o7 : w1.cell? ⟨o, 0, none⟩ = some (.int .i64 0) := blkcell hbx 0 (by simp [jobArr])); (have of : w1.frozen? ⟨o, 0, none⟩ = false := blkfree hbx 0); (have hf1 := blkset hbx 0 (.int .i64 x)); (rw [jobArr0] at hf1); (have HF1 := Lib.hid hf1); (have HR1 := Lib.hid (HJ.out.rdr.next hb1 hr1 hin2.2.2.2)); (have HB1 := Lib.hid hb1); clear hb1 hr1 hbx hf1))
        go_roundg (5 - (0 + 1))
        case measure => rw [HGK.out]; decide
        case rel =>
          refine ⟨0 + 1, a', [] ++ [x], rfl, by decide, by go_num, rfl, ⟨?_, ?_, ?_, ?_, HF1.out⟩, ?_, HRN.out⟩
          · exact HR1.out.moved (S := fun k => w.heap.size ≤ k) ((But.refl _ w1).setCell (p := ⟨o, 0, none⟩) (.inl (by show w.heap.size ≤ o; omega)) _) (base := w.heap.size) (fun k hk h => by omega) (by omega) HAO.out
          · exact (HJ.out.but.trans HB1.out).setCell (p := ⟨o, 0, none⟩) (.inr (by show w.heap.size ≤ o; omega)) _
          · exact blkfar ((HB1.out.block rb (lt_of_block HJ.out.rbx) (by show ¬ rb = g; omega)).trans HJ.out.rbx) (p := ⟨o, 0, none⟩) (by show rb ≠ o; omega) _
          · exact blkfar ((HB1.out.block t2 (lt_of_block HJ.out.res) (by show ¬ t2 = g; omega)).trans HJ.out.res) (p := ⟨o, 0, none⟩) (by show t2 ≠ o; omega) _
          · exact blkfar ((HB1.out.block p5 (lt_of_block HP.out) (by show ¬ p5 = g; omega)).trans HP.out) (p := ⟨o, 0, none⟩) (by show p5 ≠ o; omega) _
    · obtain ⟨x0, rfl⟩ : ∃ x0, l = [x0] := by
        match l, hll with
        | [x0], _ => exact ⟨x0, rfl⟩
      have qp : wr.cell? ⟨p5, 1, none⟩ = some (.pointer (some ⟨o, 1, none⟩)) := blkcell HP.out 1 (by simp [fivePtr])
      have HN := Lib.hid (number0 HJ.out.rdr.rd HJ.out.rdr.far HB.out.bytes HJ.out.rdr.le hd)
      obtain ⟨r, hr⟩ : ∃ r, numberR bs a = r := ⟨_, rfl⟩
      have hin := fun x a' (e : r = .inr (x, a')) => numberR_in HB.out.bytes (hr.trans e)
      have hrr : rbind r (fun x a' => rbind (repR (numberR bs) 3 a') fun l2 a'' => .inr ([x0] ++ [x] ++ l2, a'')) = R := by
        rw [← HRR.out, ← hr]
        show _ = rbind (rbind (numberR bs a) fun x a' => rbind (repR (numberR bs) 3 a') fun l a'' => .inr (x :: l, a'')) _
        rw [rbind_assoc]
        congr 1
        funext x a'
        rw [rbind_assoc]
        all_goals congr 1
      rw [hr] at HN
      clear hr
      rcases r with ⟨c, a'⟩ | ⟨x, a'⟩
      · have E := Lib.hid (show T = .inl (c, a') from by rw [← HT.out, ← hrr]; rfl)
        clear hrr hin
        go_wp2_with (first | (go_at_call 59; refine HN.out.mono ?_; rintro e w1 ⟨hb1, rfl, hr1⟩; (have HR1 := Lib.hid hr1); (have HB1 := Lib.hid hb1); clear hb1 hr1))
        exact ⟨rfl, HJ.out.but.trans HB1.out, by rw [E.out]; exact ⟨rfl, HR1.out⟩⟩
      · have HRN := Lib.hid hrr
        have hin2 := hin x a' rfl
        clear hrr hin
        go_wp2_with (first | (go_at_call 59; refine HN.out.mono ?_; rintro e w1 ⟨hb1, rfl, hr1⟩; (have hbx := (hb1.block o hol (by show ¬ o = g; omega)).trans HJ.out.box); (have o7 : w1.cell? ⟨o, 1, none⟩ = some (.int .i64 0) := blkcell hbx 1 (by simp [jobArr])); (have of : w1.frozen? ⟨o, 1, none⟩ = false := blkfree hbx 1); (have hf1 := blkset hbx 1 (.int .i64 x)); (have HF1 := Lib.hid hf1); (have HR1 := Lib.hid (HJ.out.rdr.next hb1 hr1 hin2.2.2.2)); (have HB1 := Lib.hid hb1); clear hb1 hr1 hbx hf1))
        go_roundg (5 - (1 + 1))
        case measure => rw [HGK.out]; decide
        case rel =>
          refine ⟨1 + 1, a', [x0] ++ [x], rfl, by decide, by go_num, rfl, ⟨?_, ?_, ?_, ?_, HF1.out⟩, ?_, HRN.out⟩
          · exact HR1.out.moved (S := fun k => w.heap.size ≤ k) ((But.refl _ w1).setCell (p := ⟨o, 1, none⟩) (.inl (by show w.heap.size ≤ o; omega)) _) (base := w.heap.size) (fun k hk h => by omega) (by omega) HAO.out
          · exact (HJ.out.but.trans HB1.out).setCell (p := ⟨o, 1, none⟩) (.inr (by show w.heap.size ≤ o; omega)) _
          · exact blkfar ((HB1.out.block rb (lt_of_block HJ.out.rbx) (by show ¬ rb = g; omega)).trans HJ.out.rbx) (p := ⟨o, 1, none⟩) (by show rb ≠ o; omega) _
          · exact blkfar ((HB1.out.block t2 (lt_of_block HJ.out.res) (by show ¬ t2 = g; omega)).trans HJ.out.res) (p := ⟨o, 1, none⟩) (by show t2 ≠ o; omega) _
          · exact blkfar ((HB1.out.block p5 (lt_of_block HP.out) (by show ¬ p5 = g; omega)).trans HP.out) (p := ⟨o, 1, none⟩) (by show p5 ≠ o; omega) _
    · obtain ⟨x0, x1, rfl⟩ : ∃ x0 x1, l = [x0, x1] := by
        match l, hll with
        | [x0, x1], _ => exact ⟨x0, x1, rfl⟩
      have qp : wr.cell? ⟨p5, 2, none⟩ = some (.pointer (some ⟨o, 2, none⟩)) := blkcell HP.out 2 (by simp [fivePtr])
      have HN := Lib.hid (number0 HJ.out.rdr.rd HJ.out.rdr.far HB.out.bytes HJ.out.rdr.le hd)
      obtain ⟨r, hr⟩ : ∃ r, numberR bs a = r := ⟨_, rfl⟩
      have hin := fun x a' (e : r = .inr (x, a')) => numberR_in HB.out.bytes (hr.trans e)
      have hrr : rbind r (fun x a' => rbind (repR (numberR bs) 2 a') fun l2 a'' => .inr ([x0, x1] ++ [x] ++ l2, a'')) = R := by
        rw [← HRR.out, ← hr]
        show _ = rbind (rbind (numberR bs a) fun x a' => rbind (repR (numberR bs) 2 a') fun l a'' => .inr (x :: l, a'')) _
        rw [rbind_assoc]
        congr 1
        funext x a'
        rw [rbind_assoc]
        all_goals congr 1
      rw [hr] at HN
      clear hr
      rcases r with ⟨c, a'⟩ | ⟨x, a'⟩
      · have E := Lib.hid (show T = .inl (c, a') from by rw [← HT.out, ← hrr]; rfl)
        clear hrr hin
        go_wp2_with (first | (go_at_call 59; refine HN.out.mono ?_; rintro e w1 ⟨hb1, rfl, hr1⟩; (have HR1 := Lib.hid hr1); (have HB1 := Lib.hid hb1); clear hb1 hr1))
        exact ⟨rfl, HJ.out.but.trans HB1.out, by rw [E.out]; exact ⟨rfl, HR1.out⟩⟩
      · have HRN := Lib.hid hrr
        have hin2 := hin x a' rfl
        clear hrr hin
        go_wp2_with (first | (go_at_call 59; refine HN.out.mono ?_; rintro e w1 ⟨hb1, rfl, hr1⟩; (have hbx := (hb1.block o hol (by show ¬ o = g; omega)).trans HJ.out.box); (have o7 : w1.cell? ⟨o, 2, none⟩ = some (.int .i64 0) := blkcell hbx 2 (by simp [jobArr])); (have of : w1.frozen? ⟨o, 2, none⟩ = false := blkfree hbx 2); (have hf1 := blkset hbx 2 (.int .i64 x)); (have HF1 := Lib.hid hf1); (have HR1 := Lib.hid (HJ.out.rdr.next hb1 hr1 hin2.2.2.2)); (have HB1 := Lib.hid hb1); clear hb1 hr1 hbx hf1))
        go_roundg (5 - (2 + 1))
        case measure => rw [HGK.out]; decide
        case rel =>
          refine ⟨2 + 1, a', [x0, x1] ++ [x], rfl, by decide, by go_num, rfl, ⟨?_, ?_, ?_, ?_, HF1.out⟩, ?_, HRN.out⟩
          · exact HR1.out.moved (S := fun k => w.heap.size ≤ k) ((But.refl _ w1).setCell (p := ⟨o, 2, none⟩) (.inl (by show w.heap.size ≤ o; omega)) _) (base := w.heap.size) (fun k hk h => by omega) (by omega) HAO.out
          · exact (HJ.out.but.trans HB1.out).setCell (p := ⟨o, 2, none⟩) (.inr (by show w.heap.size ≤ o; omega)) _
          · exact blkfar ((HB1.out.block rb (lt_of_block HJ.out.rbx) (by show ¬ rb = g; omega)).trans HJ.out.rbx) (p := ⟨o, 2, none⟩) (by show rb ≠ o; omega) _
          · exact blkfar ((HB1.out.block t2 (lt_of_block HJ.out.res) (by show ¬ t2 = g; omega)).trans HJ.out.res) (p := ⟨o, 2, none⟩) (by show t2 ≠ o; omega) _
          · exact blkfar ((HB1.out.block p5 (lt_of_block HP.out) (by show ¬ p5 = g; omega)).trans HP.out) (p := ⟨o, 2, none⟩) (by show p5 ≠ o; omega) _
    · obtain ⟨x0, x1, x2, rfl⟩ : ∃ x0 x1 x2, l = [x0, x1, x2] := by
        match l, hll with
        | [x0, x1, x2], _ => exact ⟨x0, x1, x2, rfl⟩
      have qp : wr.cell? ⟨p5, 3, none⟩ = some (.pointer (some ⟨o, 3, none⟩)) := blkcell HP.out 3 (by simp [fivePtr])
      have HN := Lib.hid (number0 HJ.out.rdr.rd HJ.out.rdr.far HB.out.bytes HJ.out.rdr.le hd)
      obtain ⟨r, hr⟩ : ∃ r, numberR bs a = r := ⟨_, rfl⟩
      have hin := fun x a' (e : r = .inr (x, a')) => numberR_in HB.out.bytes (hr.trans e)
      have hrr : rbind r (fun x a' => rbind (repR (numberR bs) 1 a') fun l2 a'' => .inr ([x0, x1, x2] ++ [x] ++ l2, a'')) = R := by
        rw [← HRR.out, ← hr]
        show _ = rbind (rbind (numberR bs a) fun x a' => rbind (repR (numberR bs) 1 a') fun l a'' => .inr (x :: l, a'')) _
        rw [rbind_assoc]
        congr 1
        funext x a'
        rw [rbind_assoc]
        all_goals congr 1
      rw [hr] at HN
      clear hr
      rcases r with ⟨c, a'⟩ | ⟨x, a'⟩
      · have E := Lib.hid (show T = .inl (c, a') from by rw [← HT.out, ← hrr]; rfl)
        clear hrr hin
        go_wp2_with (first | (go_at_call 59; refine HN.out.mono ?_; rintro e w1 ⟨hb1, rfl, hr1⟩; (have HR1 := Lib.hid hr1); (have HB1 := Lib.hid hb1); clear hb1 hr1))
        exact ⟨rfl, HJ.out.but.trans HB1.out, by rw [E.out]; exact ⟨rfl, HR1.out⟩⟩
      · have HRN := Lib.hid hrr
        have hin2 := hin x a' rfl
        clear hrr hin
        go_wp2_with (first | (go_at_call 59; refine HN.out.mono ?_; rintro e w1 ⟨hb1, rfl, hr1⟩; (have hbx := (hb1.block o hol (by show ¬ o = g; omega)).trans HJ.out.box); (have o7 : w1.cell? ⟨o, 3, none⟩ = some (.int .i64 0) := blkcell hbx 3 (by simp [jobArr])); (have of : w1.frozen? ⟨o, 3, none⟩ = false := blkfree hbx 3); (have hf1 := blkset hbx 3 (.int .i64 x)); (have HF1 := Lib.hid hf1); (have HR1 := Lib.hid (HJ.out.rdr.next hb1 hr1 hin2.2.2.2)); (have HB1 := Lib.hid hb1); clear hb1 hr1 hbx hf1))
        go_roundg (5 - (3 + 1))
        case measure => rw [HGK.out]; decide
        case rel =>
          refine ⟨3 + 1, a', [x0, x1, x2] ++ [x], rfl, by decide, by go_num, rfl, ⟨?_, ?_, ?_, ?_, HF1.out⟩, ?_, HRN.out⟩
          · exact HR1.out.moved (S := fun k => w.heap.size ≤ k) ((But.refl _ w1).setCell (p := ⟨o, 3, none⟩) (.inl (by show w.heap.size ≤ o; omega)) _) (base := w.heap.size) (fun k hk h => by omega) (by omega) HAO.out
          · exact (HJ.out.but.trans HB1.out).setCell (p := ⟨o, 3, none⟩) (.inr (by show w.heap.size ≤ o; omega)) _
          · exact blkfar ((HB1.out.block rb (lt_of_block HJ.out.rbx) (by show ¬ rb = g; omega)).trans HJ.out.rbx) (p := ⟨o, 3, none⟩) (by show rb ≠ o; omega) _
          · exact blkfar ((HB1.out.block t2 (lt_of_block HJ.out.res) (by show ¬ t2 = g; omega)).trans HJ.out.res) (p := ⟨o, 3, none⟩) (by show t2 ≠ o; omega) _
          · exact blkfar ((HB1.out.block p5 (lt_of_block HP.out) (by show ¬ p5 = g; omega)).trans HP.out) (p := ⟨o, 3, none⟩) (by show p5 ≠ o; omega) _
    · obtain ⟨x0, x1, x2, x3, rfl⟩ : ∃ x0 x1 x2 x3, l = [x0, x1, x2, x3] := by
        match l, hll with
        | [x0, x1, x2, x3], _ => exact ⟨x0, x1, x2, x3, rfl⟩
      have qp : wr.cell? ⟨p5, 4, none⟩ = some (.pointer (some ⟨o, 5, none⟩)) := blkcell HP.out 4 (by simp [fivePtr])
      have HN := Lib.hid (number0 HJ.out.rdr.rd HJ.out.rdr.far HB.out.bytes HJ.out.rdr.le hd)
      obtain ⟨r, hr⟩ : ∃ r, numberR bs a = r := ⟨_, rfl⟩
      have hin := fun x a' (e : r = .inr (x, a')) => numberR_in HB.out.bytes (hr.trans e)
      have hrr : rbind r (fun x a' => rbind (repR (numberR bs) 0 a') fun l2 a'' => .inr ([x0, x1, x2, x3] ++ [x] ++ l2, a'')) = R := by
        rw [← HRR.out, ← hr]
        show _ = rbind (rbind (numberR bs a) fun x a' => rbind (repR (numberR bs) 0 a') fun l a'' => .inr (x :: l, a'')) _
        rw [rbind_assoc]
        rfl
      rw [hr] at HN
      clear hr
      rcases r with ⟨c, a'⟩ | ⟨x, a'⟩
      · have E := Lib.hid (show T = .inl (c, a') from by rw [← HT.out, ← hrr]; rfl)
        clear hrr hin
        go_wp2_with (first | (go_at_call 59; refine HN.out.mono ?_; rintro e w1 ⟨hb1, rfl, hr1⟩; (have HR1 := Lib.hid hr1); (have HB1 := Lib.hid hb1); clear hb1 hr1))
        exact ⟨rfl, HJ.out.but.trans HB1.out, by rw [E.out]; exact ⟨rfl, HR1.out⟩⟩
      · have HRN := Lib.hid hrr
        have hin2 := hin x a' rfl
        clear hrr hin
        go_wp2_with (first | (go_at_call 59; refine HN.out.mono ?_; rintro e w1 ⟨hb1, rfl, hr1⟩; (have hbx := (hb1.block o hol (by show ¬ o = g; omega)).trans HJ.out.box); (have o7 : w1.cell? ⟨o, 5, none⟩ = some (.int .i64 0) := blkcell hbx 5 (by simp [jobArr])); (have of : w1.frozen? ⟨o, 5, none⟩ = false := blkfree hbx 5); (have hf1 := blkset hbx 5 (.int .i64 x)); (have HF1 := Lib.hid hf1); (have HR1 := Lib.hid (HJ.out.rdr.next hb1 hr1 hin2.2.2.2)); (have HB1 := Lib.hid hb1); clear hb1 hr1 hbx hf1))
        go_roundg (5 - (4 + 1))
        case measure => rw [HGK.out]; decide
        case rel =>
          refine ⟨4 + 1, a', [x0, x1, x2, x3] ++ [x], rfl, by decide, by go_num, rfl, ⟨?_, ?_, ?_, ?_, HF1.out⟩, ?_, HRN.out⟩
          · exact HR1.out.moved (S := fun k => w.heap.size ≤ k) ((But.refl _ w1).setCell (p := ⟨o, 5, none⟩) (.inl (by show w.heap.size ≤ o; omega)) _) (base := w.heap.size) (fun k hk h => by omega) (by omega) HAO.out
          · exact (HJ.out.but.trans HB1.out).setCell (p := ⟨o, 5, none⟩) (.inr (by show w.heap.size ≤ o; omega)) _
          · exact blkfar ((HB1.out.block rb (lt_of_block HJ.out.rbx) (by show ¬ rb = g; omega)).trans HJ.out.rbx) (p := ⟨o, 5, none⟩) (by show rb ≠ o; omega) _
          · exact blkfar ((HB1.out.block t2 (lt_of_block HJ.out.res) (by show ¬ t2 = g; omega)).trans HJ.out.res) (p := ⟨o, 5, none⟩) (by show t2 ≠ o; omega) _
          · exact blkfar ((HB1.out.block p5 (lt_of_block HP.out) (by show ¬ p5 = g; omega)).trans HP.out) (p := ⟨o, 5, none⟩) (by show p5 ≠ o; omega) _
    · obtain ⟨x0, x1, x2, x3, x4, rfl⟩ : ∃ x0 x1 x2 x3 x4, l = [x0, x1, x2, x3, x4] := by
        match l, hll with
        | [x0, x1, x2, x3, x4], _ => exact ⟨x0, x1, x2, x3, x4, rfl⟩
      have hE0 : T = jobR2 bs [x0, x1, x2, x3, x4] a := by
        rw [← HT.out, ← HRR.out]
        rfl
      have hln := HB.out.bytes.len
      by_cases hlt : a < bs.length
      case neg =>
        have E := Lib.hid (show T = .inl (181, a) from by rw [hE0]; unfold jobR2 byteR; rw [if_neg hlt]; rfl)
        clear hE0
        go_wp2_with (first | (go_at_call 58; refine (byte_no HJ.out.rdr.rd (by omega) hlt).mono ?_; rintro e w1 ⟨rfl, hr1, hb1⟩; (have HR1 := Lib.hid hr1); (have HB1 := Lib.hid hb1); clear hr1 hb1))
        exact ⟨rfl, HJ.out.but.trans HB1.out, by rw [E.out]; exact ⟨rfl, HR1.out⟩⟩
      have hgd : bs.getD a 0 = bs[a] := by rw [List.getD_eq_getElem?_getD, List.getElem?_eq_getElem hlt]; rfl
      obtain ⟨x, hx⟩ : ∃ x, bs[a] = x := ⟨_, rfl⟩
      have HX := Lib.hid hx
      have hE1 : T = if x ≤ 1 then jobR3 bs [x0, x1, x2, x3, x4] x (a + 1) else .inl (182, a + 1) := by rw [hE0]; unfold jobR2 byteR; rw [if_pos hlt, hgd, hx]; rfl
      have hale := HJ.out.rdr.le
      have hrbo : ¬ o = rb := by omega
      clear hE0 hgd hx
      by_cases hx1 : x ≤ 1
      case neg =>
        have E := Lib.hid (show T = .inl (182, a + 1) from by rw [hE1, if_neg hx1])
        have dx : decide (x ≤ 1) = false := decide_eq_false hx1
        clear hE1
        go_wp2_with (first | (go_at_call 58; refine (byte_ok HJ.out.rdr.rd HJ.out.rdr.far (by omega) hlt (by omega) (by omega)).mono ?_; rw [HX.out]; rintro e w1 ⟨rfl, hr1, hb1⟩; (have hbx := (hb1.block o hol (by show ¬ o = g; omega)).trans HJ.out.box); (have o4 : w1.cell? ⟨o, 4, none⟩ = some (.bool false) := blkcell hbx 4 (by simp [jobArr])); (have o4f : w1.frozen? ⟨o, 4, none⟩ = false := blkfree hbx 4); (have HBX := Lib.hid hbx); (have hrb1 := (hb1.block rb (lt_of_block HJ.out.rbx) (by show ¬ rb = g; omega)).trans HJ.out.rbx); (have qrb1 : w1.cell? ⟨rb, 0, none⟩ = some (.pointer (some ⟨g, 0, none⟩)) := blkcell hrb1 0 (by simp)); (have HRB1 := Lib.hid hrb1); (have HT21 := Lib.hid ((hb1.block t2 (lt_of_block HJ.out.res) (by show ¬ t2 = g; omega)).trans HJ.out.res)); (have HR1 := Lib.hid (HJ.out.rdr.next hb1 hr1.next hlt)); (have HB1 := Lib.hid (HJ.out.but.trans hb1)); clear hb1 hr1 hbx hrb1) | (go_at_call 51; refine (must_no 182 _).mono ?_; rintro e w2 ⟨rfl, rfl⟩))
        exact ⟨rfl, HB1.out, by rw [E.out]; exact ⟨rfl, HR1.out.rd⟩⟩
      have dx : decide (x ≤ 1) = true := decide_eq_true hx1
      rw [if_pos hx1] at hE1
      obtain ⟨bl, hbl⟩ : ∃ b, (x == 1) = b := ⟨_, rfl⟩
      have HE1 := Lib.hid hE1
      have HBL := Lib.hid hbl
      clear hE1
      go_wp2_with (first | (go_at_call 58; refine (byte_ok HJ.out.rdr.rd HJ.out.rdr.far (by omega) hlt (by omega) (by omega)).mono ?_; rw [HX.out]; rintro e w1 ⟨rfl, hr1, hb1⟩; (have hbx := (hb1.block o hol (by show ¬ o = g; omega)).trans HJ.out.box); (have o4 : w1.cell? ⟨o, 4, none⟩ = some (.bool false) := blkcell hbx 4 (by simp [jobArr])); (have o4f : w1.frozen? ⟨o, 4, none⟩ = false := blkfree hbx 4); (have HBX := Lib.hid hbx); (have hrb1 := (hb1.block rb (lt_of_block HJ.out.rbx) (by show ¬ rb = g; omega)).trans HJ.out.rbx); (have qrb1 : w1.cell? ⟨rb, 0, none⟩ = some (.pointer (some ⟨g, 0, none⟩)) := blkcell hrb1 0 (by simp)); (have HRB1 := Lib.hid hrb1); (have HT21 := Lib.hid ((hb1.block t2 (lt_of_block HJ.out.res) (by show ¬ t2 = g; omega)).trans HJ.out.res)); (have HR1 := Lib.hid (HJ.out.rdr.next hb1 hr1.next hlt)); (have HB1 := Lib.hid (HJ.out.but.trans hb1)); clear hb1 hr1 hbx hrb1) | (go_at_call 51; refine (must_ok 182 _).mono ?_; rintro e w2 ⟨rfl, rfl⟩))
      obtain ⟨W, hW⟩ : ∃ W, w2.setCell ⟨o, 4, none⟩ (.bool bl) = W := ⟨_, rfl⟩
      have s_rdr : Rdr g A bs cp d (a + 1) W := hW ▸ HR1.out.moved (S := fun k => w.heap.size ≤ k) ((But.refl _ w2).setCell (p := ⟨o, 4, none⟩) (.inl (by show w.heap.size ≤ o; omega)) _) (base := w.heap.size) (fun k hk h => by omega) (by omega) HAO.out
      have s_but : But (One g) w W := hW ▸ HB1.out.setCell (p := ⟨o, 4, none⟩) (.inr (by show w.heap.size ≤ o; omega)) _
      have s_rb : W.heap[rb]? = _ := hW ▸ blkfar HRB1.out (p := ⟨o, 4, none⟩) (by show rb ≠ o; omega) (.bool bl)
      have s_t2 : W.heap[t2]? = _ := hW ▸ blkfar HT21.out (p := ⟨o, 4, none⟩) (by show t2 ≠ o; omega) (.bool bl)
      have s_o : W.heap[o]? = some (.cells (jobArr [x0, x1, x2, x3, x4] bl) 52 (0, 0)) := by
        have := blkset HBX.out 4 (.bool bl)
        rw [jobArr4, hW] at this
        exact this
      rw [hW]
      clear hW qrb1 o4 o4f
      go_at_call 46
      refine (rowsJobR s_rdr HB.out HAO.out s_but hgl (doneRes (by decide) (by omega) (by omega)) s_t2 s_rb s_o (by simp [jobArr]) (by simp [jobArr]) (by omega) (by omega) (by omega)).mono ?_
      clear s_rdr s_but s_rb s_t2 s_o
      intro e w3 hpost
      obtain ⟨r1, hr1⟩ : ∃ r, rowsR bs (ruleR bs) (a + 1) = r := ⟨_, rfl⟩
      rw [hr1] at hpost
      rcases r1 with ⟨c, a'⟩ | ⟨rs, a3⟩
      · obtain ⟨rfl, hr, hb⟩ := hpost
        have E : T = .inl (c, a') := by rw [HE1.out]; unfold jobR3; rw [hr1]; rfl
        exact ⟨rfl, hb, by rw [E]; exact ⟨rfl, hr⟩⟩
      obtain ⟨rfl, hbi⟩ := hpost
      obtain ⟨v1, lvr, hbox, hown, hlv, hrdn, ht2d⟩ := hbi.box
      obtain ⟨A1, n1, c1, hv⟩ : ∃ A n c, v1 = Value.slice A n c := (by obtain ⟨A, c, h⟩ := hown.slice; exact ⟨A, _, c, h⟩)
      subst hv
      have HR1 := Lib.hid hr1
      have q3 : w3.cell? ⟨rb, 0, none⟩ = some (.pointer (some ⟨g, 0, none⟩)) := blkcell hbi.rbx 0 (by simp)
      have HBI := Lib.hid hbi
      have HOWN := Lib.hid hown
      have HRDN := Lib.hid hrdn
      have HT2D := Lib.hid ht2d
      have HBOX := Lib.hid hbox
      have HLV := Lib.hid hlv
      clear hbi hown hrdn ht2d hbox hlv hr1
      simp only []
      go_wp2_with fail
      go_at_call 46
      refine (rowsJobV HBI.out.rdr HB.out HAO.out HBI.out.but hgl (((doneRes (by decide) (by omega) (by omega)).and (doneOwn (by decide) (by decide) hgl)).and (doneRules (by decide) (by omega) (by omega))) ⟨⟨HT2D.out, HOWN.out⟩, HRDN.out⟩ HBI.out.rbx HBOX.out (by simp [jobArr]) (by simp [jobArr]) (by omega) (by omega) (by omega)).mono ?_
      intro e w4 hpost
      obtain ⟨r2, hr2⟩ : ∃ r, rowsR bs (varR bs) a3 = r := ⟨_, rfl⟩
      rw [hr2] at hpost
      rcases r2 with ⟨c, a'⟩ | ⟨vs, a4⟩
      · obtain ⟨rfl, hr, hb⟩ := hpost
        have E : T = .inl (c, a') := by rw [HE1.out]; unfold jobR3; rw [HR1.out]; show rbind (rowsR bs (varR bs) a3) _ = _; rw [hr2]; rfl
        exact ⟨rfl, hb, by rw [E]; exact ⟨rfl, hr⟩⟩
      obtain ⟨rfl, hbi⟩ := hpost
      obtain ⟨v2, lv2, hbox2, hown2, hlv2, hlq, hD2⟩ := hbi.box
      subst hlq
      obtain ⟨A2, n2, c2, hv⟩ : ∃ A n c, v2 = Value.slice A n c := (by obtain ⟨A, c, h⟩ := hown2.slice; exact ⟨A, _, c, h⟩)
      subst hv
      have HR2 := Lib.hid hr2
      have q4 : w4.cell? ⟨rb, 0, none⟩ = some (.pointer (some ⟨g, 0, none⟩)) := blkcell hbi.rbx 0 (by simp)
      have HBI2 := Lib.hid hbi
      have HOWN2 := Lib.hid hown2
      have HD2 := Lib.hid hD2
      have HBOX2 := Lib.hid hbox2
      clear hbi hown2 hD2 hbox2 hlv2 hr2 q3
      simp only []
      go_wp2_with fail
      go_at_call 46
      refine (rowsJobP HBI2.out.rdr HB.out HAO.out HBI2.out.but hgl ((((doneRes (by decide) (by omega) (by omega)).and (doneOwn (by decide) (by decide) hgl)).and (doneRules (by decide) (by omega) (by omega))).and (doneOwn (by decide) (by decide) hgl)) ⟨HD2.out, HOWN2.out⟩ HBI2.out.rbx HBOX2.out (by simp [jobArr]) (by simp [jobArr]) (by omega) (by omega) (by omega)).mono ?_
      intro e w5 hpost
      obtain ⟨r3, hr3⟩ : ∃ r, rowsR bs (numberR bs) a4 = r := ⟨_, rfl⟩
      rw [hr3] at hpost
      rcases r3 with ⟨c, a'⟩ | ⟨ps, a5⟩
      · obtain ⟨rfl, hr, hb⟩ := hpost
        have E : T = .inl (c, a') := by rw [HE1.out]; unfold jobR3; rw [HR1.out]; show rbind (rowsR bs (varR bs) a3) _ = _; rw [HR2.out]; show rbind (rowsR bs (numberR bs) a4) _ = _; rw [hr3]; rfl
        exact ⟨rfl, hb, by rw [E]; exact ⟨rfl, hr⟩⟩
      obtain ⟨rfl, hbi⟩ := hpost
      have E : T = .inr (mkJob [x0, x1, x2, x3, x4] x rs lv2 ps, a5) := by rw [HE1.out]; unfold jobR3; rw [HR1.out]; show rbind (rowsR bs (varR bs) a3) _ = _; rw [HR2.out]; show rbind (rowsR bs (numberR bs) a4) _ = _; rw [hr3]; rfl
      obtain ⟨v3, lv3, hbox3, hown3, hlv3, hlq, ⟨⟨⟨ht3, hownR⟩, hdoneR⟩, hownV⟩⟩ := hbi.box
      subst hlq
      obtain ⟨A3, n3, c3, hv⟩ : ∃ A n c, v3 = Value.slice A n c := (by obtain ⟨A, c, h⟩ := hown3.slice; exact ⟨A, _, c, h⟩)
      subst hv
      simp only [jobArr, List.setIfInBounds_toArray, List.set_cons_zero, List.set_cons_succ] at hbox3
      have ht3h := Lib.hid ht3
      simp only [jobArr, List.getD_nil] at ht3
      have y0 : w5.cell? ⟨o, 0, none⟩ = some (.int .i64 x0) := blkcell hbox3 0 (by simp)
      have y1 : w5.cell? ⟨o, 1, none⟩ = some (.int .i64 x1) := blkcell hbox3 1 (by simp)
      have y2 : w5.cell? ⟨o, 2, none⟩ = some (.int .i64 x2) := blkcell hbox3 2 (by simp)
      have y3 : w5.cell? ⟨o, 3, none⟩ = some (.int .i64 x3) := blkcell hbox3 3 (by simp)
      have y4 : w5.cell? ⟨o, 4, none⟩ = some (.bool bl) := blkcell hbox3 4 (by simp)
      have y5 : w5.cell? ⟨o, 5, none⟩ = some (.int .i64 x4) := blkcell hbox3 5 (by simp)
      have y6 : w5.cell? ⟨o, 6, none⟩ = some (.slice A1 n1 c1) := blkcell hbox3 6 (by simp)
      have y7 : w5.cell? ⟨o, 7, none⟩ = some (.slice A2 n2 c2) := blkcell hbox3 7 (by simp)
      have y8 : w5.cell? ⟨o, 8, none⟩ = some (.slice A3 n3 c3) := blkcell hbox3 8 (by simp)
      have z0 : w5.cell? ⟨t2, 0, none⟩ = some (.int .i64 0) := blkcell ht3 0 (by simp)
      have z1 : w5.cell? ⟨t2, 1, none⟩ = some (.int .i64 0) := blkcell ht3 1 (by simp)
      have z2 : w5.cell? ⟨t2, 2, none⟩ = some (.int .i64 0) := blkcell ht3 2 (by simp)
      have z3 : w5.cell? ⟨t2, 3, none⟩ = some (.int .i64 0) := blkcell ht3 3 (by simp)
      have z4 : w5.cell? ⟨t2, 4, none⟩ = some (.bool false) := blkcell ht3 4 (by simp)
      have z5 : w5.cell? ⟨t2, 5, none⟩ = some (.int .i64 0) := blkcell ht3 5 (by simp)
      have z6 : w5.cell? ⟨t2, 6, none⟩ = some (.slice none 0 0) := blkcell ht3 6 (by simp)
      have z7 : w5.cell? ⟨t2, 7, none⟩ = some (.slice none 0 0) := blkcell ht3 7 (by simp)
      have z8 : w5.cell? ⟨t2, 8, none⟩ = some (.slice none 0 0) := blkcell ht3 8 (by simp)
      have tf : ∀ i, w5.frozen? ⟨t2, i, none⟩ = false := blkfree ht3
      have ht3z := Lib.hid ht3
      have HE := Lib.hid E
      have HBI3 := Lib.hid hbi
      have HO3 := Lib.hid hown3
      have HOR := Lib.hid hownR
      have HDR := Lib.hid hdoneR
      have HOV := Lib.hid hownV
      have hto : ¬ o = t2 := by omega
      have hto' : ¬ t2 = o := by omega
      clear hbox3 ht3 E hbi hown3 hownR hdoneR hownV hlv3 hr3 q4
      simp only []
      go_wp2_with fail
      have hfin := blkset (blkset (blkset (blkset (blkset (blkset (blkset (blkset (blkset (ht3z.out) 0 (.int .i64 x0)) 1 (.int .i64 x1)) 2 (.int .i64 x2)) 3 (.int .i64 x3)) 4 (.bool bl)) 5 (.int .i64 x4)) 6 (.slice A1 n1 c1)) 7 (.slice A2 n2 c2)) 8 (.slice A3 n3 c3)
      simp only [List.setIfInBounds_toArray, List.set_cons_zero, List.set_cons_succ] at hfin
      have hB1 := ((((((((((But.refl (fun k => k = t2) w5).setCell (p := ⟨t2, 0, none⟩) (.inl rfl) (.int .i64 x0)).setCell (p := ⟨t2, 1, none⟩) (.inl rfl) (.int .i64 x1)).setCell (p := ⟨t2, 2, none⟩) (.inl rfl) (.int .i64 x2)).setCell (p := ⟨t2, 3, none⟩) (.inl rfl) (.int .i64 x3)).setCell (p := ⟨t2, 4, none⟩) (.inl rfl) (.bool bl)).setCell (p := ⟨t2, 5, none⟩) (.inl rfl) (.int .i64 x4)).setCell (p := ⟨t2, 6, none⟩) (.inl rfl) (.slice A1 n1 c1)).setCell (p := ⟨t2, 7, none⟩) (.inl rfl) (.slice A2 n2 c2)).setCell (p := ⟨t2, 8, none⟩) (.inl rfl) (.slice A3 n3 c3))
      refine bodyPost_ret (results_cell_row rfl _ _ t2 52 #[.int .i64 x0, .int .i64 x1, .int .i64 x2, .int .i64 x3, .bool bl, .int .i64 x4, .slice A1 n1 c1, .slice A2 n2 c2, .slice A3 n3 c3] (0, 0) _ rfl hfin Try.underlying52 rfl (by kernel_rfl)) rfl ?_
      have hG : But (fun k => w.heap.size ≤ k) w5 _ := hB1.mono (fun k _ (e : k = t2) => by show w.heap.size ≤ k; omega)
      refine ⟨HBI3.out.but.trans_ hB1 (fun k hk (e : k = t2) => by omega), ?_⟩
      rw [HE.out]
      refine ⟨⟨⟨⟨x0, x1, x2, x3, x4⟩, bl, (A1, n1, c1), (A2, n2, c2), (A3, n3, c3)⟩, rfl, ?_⟩, (hB1.block g (lt_of_block HBI3.out.rdr.rd) (fun (e : g = t2) => by omega)).trans HBI3.out.rdr.rd⟩
      refine ⟨rfl, by show bl = (x == 1); exact HBL.out.symm, ⟨lvr, own_but1 HOR.out hB1 ht3z.out (by decide), HLV.out, ?_⟩, own_but1 HOV.out hB1 ht3z.out (by decide), own_but1 HO3.out hB1 ht3z.out (by decide)⟩
      exact All2.imp (fun a b hh => ⟨own_mono (own_but1 hh.1 hB1 ht3z.out (by decide)) (by omega), hh.2⟩) HDR.out
end Go.Proofs.Ytoaopjbgaehpfaa.G
