/- rule.say: the walk. -/
import Derived.Test.YtinhlaiogkmkfaaQVf
import Derived.Test.YtinhlaiogkmkfaaQVd
import Derived.StillTailTactics
import Derived.IntWalk
namespace Go.Proofs.Ytinhlaiogkmkfaa.G
open Go.RowKit
attribute [local simp, local go_sem] alloc_drewN setCell_drewN
set_option linter.unusedVariables false
set_option linter.unusedSimpArgs false
set_option maxRecDepth 100000
def pop1 (st : List Vl) : Option (List Vl × Vl) := st.getLast?.map fun a => (st.dropLast, a)
theorem pop1_some {st s : List Vl} {a : Vl} (h : pop1 st = some (s, a)) : st = s ++ [a] := by
  unfold pop1 at h
  cases hg : st.getLast? with
  | none => rw [hg] at h; cases h
  | some b =>
    rw [hg] at h
    simp only [Option.map_some, Option.some.injEq, Prod.mk.injEq] at h
    obtain ⟨rfl, rfl⟩ := h
    have hne : st ≠ [] := by intro e; rw [e] at hg; cases hg
    have := List.dropLast_concat_getLast hne
    rw [List.getLast?_eq_some_getLast hne] at hg
    injection hg with hg
    rw [hg] at this
    exact this.symm
theorem pop1_snoc (s : List Vl) (a : Vl) : pop1 (s ++ [a]) = some (s, a) := by simp [pop1]
def lay1 (st : List Vl) (f : Vl → Bool) : Option (List Vl) := (pop1 st).map fun x => x.1 ++ [⟨mt, f x.2⟩]
def lay2 (st : List Vl) (f : Vl → Vl → Bool) : Option (List Vl) := (pop1 st).bind fun y => (pop1 y.1).map fun x => x.1 ++ [⟨mt, f x.2 y.2⟩]
theorem lay1_some {st st' : List Vl} {f : Vl → Bool} (h : lay1 st f = some st') : ∃ s a, st = s ++ [a] ∧ st' = s ++ [⟨mt, f a⟩] := by
  unfold lay1 at h
  cases hp : pop1 st with
  | none => rw [hp] at h; cases h
  | some x =>
    rw [hp] at h
    simp only [Option.map_some, Option.some.injEq] at h
    exact ⟨x.1, x.2, pop1_some hp, h.symm⟩
theorem lay2_some {st st' : List Vl} {f : Vl → Vl → Bool} (h : lay2 st f = some st') : ∃ s a b, st = s ++ [a] ++ [b] ∧ st' = s ++ [⟨mt, f a b⟩] := by
  unfold lay2 at h
  cases hp : pop1 st with
  | none => rw [hp] at h; cases h
  | some y =>
    rw [hp] at h
    simp only [Option.bind_some] at h
    cases hq : pop1 y.1 with
    | none => rw [hq] at h; cases h
    | some x =>
      rw [hq] at h
      simp only [Option.map_some, Option.some.injEq] at h
      refine ⟨x.1, x.2, y.2, ?_, h.symm⟩
      rw [← pop1_some hq]
      exact pop1_some hp
/-- What one step does to the stack of values. -/
def stepV (vs : List (ByteArray × ByteArray)) (k : Int) (tx : ByteArray) (st : List Vl) : Option (List Vl) :=
  if k = 1 then some (st ++ [⟨tx, false⟩])
  else if k = 2 then some (st ++ [⟨getT vs tx, false⟩])
  else if k = 3 then some (st ++ [⟨mt, getB vs tx⟩])
  else if k = 4 then some (st ++ [⟨mt, true⟩])
  else if k = 5 then some (st ++ [⟨mt, false⟩])
  else if k = 6 then lay1 st (fun a => !a.text.toList.isEmpty)
  else if k = 7 then lay2 st (fun a b => a.text.toList == b.text.toList)
  else if k = 8 then lay2 st (fun a b => !(a.text.toList == b.text.toList))
  else if k = 9 then lay2 st (fun a b => (matchRes b.text a.text).1)
  else if k = 10 then lay2 st (fun a b => !(matchRes b.text a.text).1)
  else if k = 11 then lay1 st (fun a => !a.ok)
  else if k = 12 then lay2 st (fun a b => a.ok && b.ok)
  else if k = 13 then lay2 st (fun a b => a.ok || b.ok)
  else none
def runV (vs : List (ByteArray × ByteArray)) : List (Int × ByteArray) → List Vl → Option (List Vl)
  | [], st => some st
  | q :: r, st => (stepV vs q.1 q.2 st).bind (runV vs r)
def sayV (vs : List (ByteArray × ByteArray)) (t : List (Int × ByteArray)) : Option Bool := (runV vs t []).bind fun st => (pop1 st).map fun x => x.2.ok
/-- The table of what each kind of step does. -/
def doTab : Array Value := #[.nilFunc, .func (.func 72) #[] #[], .func (.func 73) #[] #[], .func (.func 74) #[] #[], .func (.func 75) #[] #[], .func (.func 75) #[] #[], .func (.func 76) #[] #[], .func (.func 77) #[] #[], .func (.func 77) #[] #[], .func (.func 78) #[] #[], .func (.func 78) #[] #[], .func (.func 79) #[] #[], .func (.func 80) #[] #[], .func (.func 81) #[] #[]]
theorem steps_0 (w : World) : Calls Try.prog 53 #[] w fun e w' => e = .returned (.slice (some ⟨w.heap.size, 0, none⟩) 14 14) ∧ w' = w.alloc (.cells doTab 91) := by
  go_enter Try.func53, Try.ntmps53
  go_wp2
  go_ret
  exact ⟨rfl, rfl⟩
def SizedV (st : List Vl) : Prop := ∀ q ∈ st, q.text.size ≤ 9223372036854775807
theorem sized_snoc {st : List Vl} {q : Vl} (h : SizedV st) (hq : q.text.size ≤ 9223372036854775807) : SizedV (st ++ [q]) := by
  intro x hx
  rcases List.mem_append.1 hx with h1 | h1
  · exact h x h1
  · rw [List.mem_singleton.1 h1]; exact hq
theorem sized_left {s l : List Vl} (h : SizedV (s ++ l)) : SizedV s := fun x hx => h x (List.mem_append_left _ hx)
theorem mt_size : mt.size ≤ 9223372036854775807 := by decide
theorem getV_size {vs : List (ByteArray × ByteArray)} (hv : ∀ p ∈ vs, p.2.size ≤ 9223372036854775807) (n : ByteArray) : (getT vs n).size ≤ 9223372036854775807 := by
  unfold getT
  induction vs with
  | nil => exact mt_size
  | cons p r ih =>
    unfold getV
    split
    · exact hv p (List.mem_cons_self ..)
    · exact ih (fun q hq => hv q (List.mem_cons_of_mem _ hq))
theorem stepV_sized {vs : List (ByteArray × ByteArray)} {k : Int} {tx : ByteArray} {st st' : List Vl} (hs : stepV vs k tx st = some st') (h : SizedV st) (htx : tx.size ≤ 9223372036854775807) (hv : ∀ p ∈ vs, p.2.size ≤ 9223372036854775807) :
    SizedV st' ∧ st'.length ≤ st.length + 1 := by
  have l0 : ∀ {q : Vl}, some (st ++ [q]) = some st' → q.text.size ≤ 9223372036854775807 → SizedV st' ∧ st'.length ≤ st.length + 1 := by
    intro q e hq
    injection e with e
    subst e
    exact ⟨sized_snoc h hq, by simp⟩
  have l1 : ∀ {f : Vl → Bool}, lay1 st f = some st' → SizedV st' ∧ st'.length ≤ st.length + 1 := by
    intro f e
    obtain ⟨s, a, rfl, rfl⟩ := lay1_some e
    exact ⟨sized_snoc (sized_left h) mt_size, by simp⟩
  have l2 : ∀ {f : Vl → Vl → Bool}, lay2 st f = some st' → SizedV st' ∧ st'.length ≤ st.length + 1 := by
    intro f e
    obtain ⟨s, a, b, rfl, rfl⟩ := lay2_some e
    exact ⟨sized_snoc (sized_left (sized_left h)) mt_size, by simp⟩
  unfold stepV at hs
  by_cases h1 : k = 1
  · rw [if_pos h1] at hs; exact l0 hs htx
  rw [if_neg h1] at hs
  by_cases h2 : k = 2
  · rw [if_pos h2] at hs; exact l0 hs (getV_size hv tx)
  rw [if_neg h2] at hs
  by_cases h3 : k = 3
  · rw [if_pos h3] at hs; exact l0 hs mt_size
  rw [if_neg h3] at hs
  by_cases h4 : k = 4
  · rw [if_pos h4] at hs; exact l0 hs mt_size
  rw [if_neg h4] at hs
  by_cases h5 : k = 5
  · rw [if_pos h5] at hs; exact l0 hs mt_size
  rw [if_neg h5] at hs
  by_cases h6 : k = 6
  · rw [if_pos h6] at hs; exact l1 hs
  rw [if_neg h6] at hs
  by_cases h7 : k = 7
  · rw [if_pos h7] at hs; exact l2 hs
  rw [if_neg h7] at hs
  by_cases h8 : k = 8
  · rw [if_pos h8] at hs; exact l2 hs
  rw [if_neg h8] at hs
  by_cases h9 : k = 9
  · rw [if_pos h9] at hs; exact l2 hs
  rw [if_neg h9] at hs
  by_cases h10 : k = 10
  · rw [if_pos h10] at hs; exact l2 hs
  rw [if_neg h10] at hs
  by_cases h11 : k = 11
  · rw [if_pos h11] at hs; exact l1 hs
  rw [if_neg h11] at hs
  by_cases h12 : k = 12
  · rw [if_pos h12] at hs; exact l2 hs
  rw [if_neg h12] at hs
  by_cases h13 : k = 13
  · rw [if_pos h13] at hs; exact l2 hs
  rw [if_neg h13] at hs
  cases hs
/-- The function that the table has for a kind: it may be called, and does what stepV says. -/
theorem does0 (g B : Nat) (A : Option Addr) (c : Nat) (vs : List (ByteArray × ByteArray)) (k : Int) (tx : ByteArray) (st st' : List Vl) (hs : stepV vs k tx st = some st') (hst : st.length ≤ 10000) (hsz : SizedV st) (hvl : vs.length ≤ 9223372036854775807) :
    ∃ (kn fn : Nat), k = (kn : Int) ∧ kn < 14 ∧ doTab[kn]? = some (.func (.func fn) #[] #[]) ∧ (∀ (args : Array Value) (w' : World), (callFunc fn args).run Try.prog w' = .ok (.enter fn args) w') ∧
      ∀ (w : World) (v : Value), Rn w g B (.slice A vs.length c) v st → VarsIn w A vs → Calls Try.prog fn #[.pointer (some ⟨g, 0, none⟩), .agg #[.int .i64 k, .string tx]] w (RnPost w (Fr g B) g B (.slice A vs.length c) st' (.tuple #[])) := by
  have two : ∀ {s : List Vl} {a b : Vl}, st = s ++ [a] ++ [b] → s.length ≤ 10000 ∧ a.text.size ≤ 9223372036854775807 ∧ b.text.size ≤ 9223372036854775807 := by
    intro s a b e
    subst e
    exact ⟨by simp at hst; omega, hsz a (by simp), hsz b (by simp)⟩
  have one : ∀ {s : List Vl} {a : Vl}, st = s ++ [a] → s.length ≤ 10000 := by
    intro s a e
    subst e
    simp at hst
    omega
  unfold stepV at hs
  by_cases hk : k = 1
  · rw [if_pos hk] at hs; subst hk; injection hs with hs; subst hs
    exact ⟨1, _, rfl, by decide, rfl, enters Try.func72 (by kernel_rfl) (by kernel_rfl), fun w v h hv => do_literal g B _ v st 1 tx w h hst⟩
  rw [if_neg hk] at hs; clear hk
  by_cases hk : k = 2
  · rw [if_pos hk] at hs; subst hk; injection hs with hs; subst hs
    exact ⟨2, _, rfl, by decide, rfl, enters Try.func73 (by kernel_rfl) (by kernel_rfl), fun w v h hv => do_variable g B _ v st A c vs 2 tx w h hst rfl hv hvl⟩
  rw [if_neg hk] at hs; clear hk
  by_cases hk : k = 3
  · rw [if_pos hk] at hs; subst hk; injection hs with hs; subst hs
    exact ⟨3, _, rfl, by decide, rfl, enters Try.func74 (by kernel_rfl) (by kernel_rfl), fun w v h hv => do_defined g B _ v st A c vs 3 tx w h hst rfl hv hvl⟩
  rw [if_neg hk] at hs; clear hk
  by_cases hk : k = 4
  · rw [if_pos hk] at hs; subst hk; injection hs with hs; subst hs
    exact ⟨4, _, rfl, by decide, rfl, enters Try.func75 (by kernel_rfl) (by kernel_rfl), fun w v h hv => do_true g B _ v st tx w h hst⟩
  rw [if_neg hk] at hs; clear hk
  by_cases hk : k = 5
  · rw [if_pos hk] at hs; subst hk; injection hs with hs; subst hs
    exact ⟨5, _, rfl, by decide, rfl, enters Try.func75 (by kernel_rfl) (by kernel_rfl), fun w v h hv => do_false g B _ v st tx w h hst⟩
  rw [if_neg hk] at hs; clear hk
  by_cases hk : k = 6
  · rw [if_pos hk] at hs; subst hk; obtain ⟨s, a, e, rfl⟩ := lay1_some hs
    exact ⟨6, _, rfl, by decide, rfl, enters Try.func76 (by kernel_rfl) (by kernel_rfl), fun w v h hv => do_truth g B _ v s a 6 tx w (e ▸ h) (one e)⟩
  rw [if_neg hk] at hs; clear hk
  by_cases hk : k = 7
  · rw [if_pos hk] at hs; subst hk; obtain ⟨s, a, b, e, rfl⟩ := lay2_some hs
    exact ⟨7, _, rfl, by decide, rfl, enters Try.func77 (by kernel_rfl) (by kernel_rfl), fun w v h hv => do_eq g B _ v s a b tx w (e ▸ h) (two e).1⟩
  rw [if_neg hk] at hs; clear hk
  by_cases hk : k = 8
  · rw [if_pos hk] at hs; subst hk; obtain ⟨s, a, b, e, rfl⟩ := lay2_some hs
    exact ⟨8, _, rfl, by decide, rfl, enters Try.func77 (by kernel_rfl) (by kernel_rfl), fun w v h hv => do_ne g B _ v s a b tx w (e ▸ h) (two e).1⟩
  rw [if_neg hk] at hs; clear hk
  by_cases hk : k = 9
  · rw [if_pos hk] at hs; subst hk; obtain ⟨s, a, b, e, rfl⟩ := lay2_some hs
    exact ⟨9, _, rfl, by decide, rfl, enters Try.func78 (by kernel_rfl) (by kernel_rfl), fun w v h hv => do_match g B _ v s a b tx w (e ▸ h) (two e).1 (two e).2.1 (two e).2.2⟩
  rw [if_neg hk] at hs; clear hk
  by_cases hk : k = 10
  · rw [if_pos hk] at hs; subst hk; obtain ⟨s, a, b, e, rfl⟩ := lay2_some hs
    exact ⟨10, _, rfl, by decide, rfl, enters Try.func78 (by kernel_rfl) (by kernel_rfl), fun w v h hv => do_unlike g B _ v s a b tx w (e ▸ h) (two e).1 (two e).2.1 (two e).2.2⟩
  rw [if_neg hk] at hs; clear hk
  by_cases hk : k = 11
  · rw [if_pos hk] at hs; subst hk; obtain ⟨s, a, e, rfl⟩ := lay1_some hs
    exact ⟨11, _, rfl, by decide, rfl, enters Try.func79 (by kernel_rfl) (by kernel_rfl), fun w v h hv => do_not g B _ v s a 11 tx w (e ▸ h) (one e)⟩
  rw [if_neg hk] at hs; clear hk
  by_cases hk : k = 12
  · rw [if_pos hk] at hs; subst hk; obtain ⟨s, a, b, e, rfl⟩ := lay2_some hs
    exact ⟨12, _, rfl, by decide, rfl, enters Try.func80 (by kernel_rfl) (by kernel_rfl), fun w v h hv => do_and g B _ v s a b 12 tx w (e ▸ h) (two e).1⟩
  rw [if_neg hk] at hs; clear hk
  by_cases hk : k = 13
  · rw [if_pos hk] at hs; subst hk; obtain ⟨s, a, b, e, rfl⟩ := lay2_some hs
    exact ⟨13, _, rfl, by decide, rfl, enters Try.func81 (by kernel_rfl) (by kernel_rfl), fun w v h hv => do_or g B _ v s a b 13 tx w (e ▸ h) (two e).1⟩
  rw [if_neg hk] at hs; clear hk
  cases hs
def SayAt (w : World) (g : Nat) (vv : Value) (vs : List (ByteArray × ByteArray)) (t : List (Int × ByteArray)) (F : Option (List Vl)) (gk : Nat) (v15 : Value) (wr : World) : Prop :=
  ∃ (i : Nat) (st : List Vl) (v : Value), gk = t.length - i ∧ i ≤ t.length ∧ v15 = .int .i64 (i : Int) ∧ But (Ge g) w wr ∧ Rn wr g (g + 2) vv v st ∧ wr.heap[g + 1]? = some (.cells doTab 91 (0, 0)) ∧ SizedV st ∧ st.length ≤ i ∧ runV vs (t.drop i) st = F
set_option maxHeartbeats 8000000 in
theorem say0 (A : Option Addr) (c : Nat) (t : List (Int × ByteArray)) (A2 : Option Addr) (c2 : Nat) (vs : List (ByteArray × ByteArray)) (w : World) (hT : StepsIn w A t) (hV : VarsIn w A2 vs) (hc : t.length ≤ 9000) (hvl : vs.length ≤ 9223372036854775807)
    (hsz : ∀ q ∈ t, q.2.size ≤ 9223372036854775807) (hvs : ∀ p ∈ vs, p.2.size ≤ 9223372036854775807) (b : Bool) (hB : sayV vs t = some b) :
    Calls Try.prog 35 #[.slice A t.length c, .slice A2 vs.length c2] w fun e w' => e = .returned (.bool b) ∧ Below w.heap.size w w' := by
  have hc2 : t.length ≤ 9223372036854775807 := by omega
  obtain ⟨F, hF⟩ : ∃ F, runV vs t [] = F := ⟨_, rfl⟩
  have HF := Lib.hid hF
  have HB := Lib.hid (show F.bind (fun st => (pop1 st).map fun x => x.2.ok) = some b from by rw [← hF]; exact hB)
  have HT := Lib.hid hT
  have HV := Lib.hid hV
  have HS := Lib.hid hsz
  have HVS := Lib.hid hvs
  clear hF hB hT hsz hV hvs
  have bel : ∀ w' : World, But (Ge w.heap.size) w w' → Below w.heap.size w w' := fun _ h => h.below (fun b hb c => Nat.not_lt.2 c hb)
  have BEL := Lib.hid bel
  have hold : ∀ k, k < w.heap.size → ¬ Ge w.heap.size k := fun k h c => Nat.not_lt.2 c h
  have HOLD := Lib.hid hold
  clear bel hold
  go_enter Try.func35, Try.ntmps35
  go_wp2_with (go_at_call 53; refine (steps_0 _).mono ?_; rintro e w1 ⟨rfl, rfl⟩)
  go_loopg [15] t.length (fun gk v15 wr => SayAt w w.heap.size (.slice A2 vs.length c2) vs t F gk v15 wr)
  case atStart =>
    exact ⟨0, [], .slice none 0 0, rfl, Nat.zero_le _, rfl, ((But.refl _ w).alloc _).alloc _, ⟨heap_alloc2_old w _ _, El.own_nil _ _, by omega, by simp⟩, heap_alloc2_new w _ _, (fun q h => by cases h), Nat.le_refl _, HF.out⟩
  case round =>
    obtain ⟨i, st, v, hgk, hi, rfl, hb, hW, hTab, hSm, hln, hR⟩ := hrel
    have HGK := Lib.hid hgk
    have HR := Lib.hid hR
    have HW := Lib.hid hW
    have HBt := Lib.hid hb
    have HSm := Lib.hid hSm
    have HTab := Lib.hid hTab
    clear hgk hR hW hb hSm hTab
    by_cases hlt : i < t.length
    · obtain ⟨ad, hA, k1, k2⟩ := HT.out i hlt
      have k3 := HS.out t[i] (List.getElem_mem hlt)
      have hd : t.drop i = t[i] :: t.drop (i + 1) := List.drop_eq_getElem_cons hlt
      cases hA
      have k1' := HBt.out.cell_some k1 (HOLD.out _ (World.block_lt_of_cell? w _ k1))
      have k2' := HBt.out.cell_some k2 (HOLD.out _ (World.block_lt_of_cell? w _ k2))
      have hlt' : (i : Int) < (t.length : Int) := by omega
      have dl : decide ((i : Int) < (t.length : Int)) = true := by simp; omega
      obtain ⟨⟨kk, tx⟩, hq⟩ : ∃ q, t[i] = q := ⟨_, rfl⟩
      rw [hq] at k1' k2' k3 hd
      cases hS : stepV vs kk tx st with
      | none =>
        exfalso
        have h1 := HR.out
        rw [hd] at h1
        have h2 : runV vs ((kk, tx) :: t.drop (i + 1)) st = (stepV vs kk tx st).bind (runV vs (t.drop (i + 1))) := rfl
        rw [h2, hS] at h1
        have h3 := HB.out
        rw [← h1] at h3
        cases h3
      | some st' =>
        have HN := Lib.hid (show runV vs (t.drop (i + 1)) st' = F from by
          rw [← HR.out, hd]
          show _ = (stepV vs kk tx st).bind (runV vs (t.drop (i + 1)))
          rw [hS]
          rfl)
        have hss := stepV_sized hS HSm.out k3 HVS.out
        obtain ⟨kn, fn, rfl, hk14, htab, hent, hcall⟩ := does0 w.heap.size (w.heap.size + 2) A2 c2 vs kk tx st st' hS (by omega) HSm.out hvl
        have hfun : wr.cell? ⟨w.heap.size + 1, kn, none⟩ = some (.func (.func fn) #[] #[]) := by rw [cell_of_row wr _ _ _ _ _ HTab.out, htab]
        have HSS := Lib.hid hss
        have HC := Lib.hid hcall
        have hsz2 := HW.out.2.2.2
        have hk14' : (kn : Int) < 14 := by omega
        clear k1 k2 hq hd hS hss hcall htab
        have hw2 : Rn (wr.alloc (.cells #[.int .i64 (kn : Int), .string tx] 45)) w.heap.size (w.heap.size + 2) (.slice A2 vs.length c2) v st := HW.out.new ((But.refl No wr).alloc _)
        have hv2 : VarsIn (wr.alloc (.cells #[.int .i64 (kn : Int), .string tx] 45)) A2 vs := (HV.out.later HBt.out HOLD.out).later ((But.refl No wr).alloc _) (fun _ _ c => c)
        have HC2 := Lib.hid (HC.out _ v (hw2.new (But.refl No _).drew) (hv2.later (But.refl No _).drew (fun _ _ c => c)))
        clear hw2 hv2
        have hx0 : (wr.alloc (.cells #[.int .i64 (kn : Int), .string tx] 45)).cell? ⟨wr.heap.size, 0, none⟩ = some (.int .i64 (kn : Int)) := (cell_of_row _ _ 0 _ _ _ (heap_alloc_new wr _)).trans rfl
        have hx1 : (wr.alloc (.cells #[.int .i64 (kn : Int), .string tx] 45)).cell? ⟨wr.heap.size, 1, none⟩ = some (.string tx) := (cell_of_row _ _ 1 _ _ _ (heap_alloc_new wr _)).trans rfl
        have hx2 := ((But.refl No wr).alloc (.cells #[.int .i64 (kn : Int), .string tx] 45)).cell_some hfun (fun c => c)
        have HBA := Lib.hid (HBt.out.alloc (.cells #[.int .i64 (kn : Int), .string tx] 45))
        have HTA := Lib.hid ((((But.refl No wr).alloc (.cells #[.int .i64 (kn : Int), .string tx] 45)).block (w.heap.size + 1) (by omega) (fun c => c)).trans HTab.out)
        have hsA : (wr.alloc (.cells #[.int .i64 (kn : Int), .string tx] 45)).heap.size = wr.heap.size + 1 := by simp
        clear hfun
        go_wp2_with fail
        generalize wr.alloc (.cells #[.int .i64 (kn : Int), .string tx] 45) = wq at *
        have HSA := Lib.hid hsA
        clear hsA
        go_still_tail 7, (by kernel_rfl)
        change wpList _ _ _ _ _ wq.drew
        go_wp2_with fail
        refine HC2.out.mono ?_
        rintro e w2 ⟨rfl, hb2, v', hR2⟩
        have hz := HBt.out.size
        have HB2 := Lib.hid (((HBA.out).drew).trans_ hb2 (fun k hk c => by rcases c with c | c <;> (show w.heap.size ≤ k) <;> omega))
        have hT2 : w2.heap[w.heap.size + 1]? = some (.cells doTab 91 (0, 0)) := (hb2.block (w.heap.size + 1) (by have := HSA.out; show _ < wq.heap.size; omega) (fun c => by rcases c with c | c <;> omega)).trans HTA.out
        have HR2 := Lib.hid hR2
        have HT2 := Lib.hid hT2
        clear hb2 hR2 hT2
        go_wp2_with fail
        go_roundg (t.length - (i + 1))
        case measure => rw [HGK.out]; omega
        case rel => exact ⟨i + 1, st', v', rfl, by omega, by go_num, HB2.out, HR2.out, HT2.out, HSS.out.1, by have := HSS.out.2; omega, HN.out⟩
    · obtain rfl : i = t.length := by omega
      have hlt' : ¬ (t.length : Int) < (t.length : Int) := by omega
      have HFF := Lib.hid (show F = some st from by rw [← HR.out, List.drop_length]; rfl)
      obtain ⟨s, q, hst, hbq⟩ : ∃ s q, st = s ++ [q] ∧ b = q.ok := by
        have h3 := HB.out
        rw [HFF.out, Option.bind_some] at h3
        cases hp : pop1 st with
        | none => rw [hp] at h3; cases h3
        | some x =>
          rw [hp] at h3
          simp only [Option.map_some, Option.some.injEq] at h3
          exact ⟨x.1, x.2, pop1_some hp, h3.symm⟩
      have hs1 : s.length ≤ 10000 := by have := congrArg List.length hst; simp at this; omega
      have HBQ := Lib.hid hbq
      have hp := pop0 w.heap.size (w.heap.size + 2) (.slice A2 vs.length c2) v s q wr (hst ▸ HW.out) (by omega)
      have HP := Lib.hid hp
      have hf1 := fieldV1
      clear hst hbq hp
      go_wp2_with fail
      refine HP.out.mono ?_
      rintro e w2 ⟨rfl, hb2, v', hR2⟩
      have HB2 := Lib.hid (HBt.out.trans_ hb2 (fun k hk c => by unfold One at c; show w.heap.size ≤ k; omega))
      clear hb2 hR2
      go_wp2_with fail
      go_ret
      exact ⟨by rw [HBQ.out]; rfl, BEL.out _ HB2.out⟩
end Go.Proofs.Ytinhlaiogkmkfaa.G
