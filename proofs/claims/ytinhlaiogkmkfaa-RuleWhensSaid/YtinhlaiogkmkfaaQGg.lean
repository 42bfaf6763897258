/- Texts of this claim, joined: words and laws that the others use. -/
import Derived.Test.YtinhlaiogkmkfaaQGf
import Derived.Test.YtinhlaiogkmkfaaProg
import Derived.Test.YtinhlaiogkmkfaaQGk
import Derived.WalkKit
import Derived.Deep.QuietTactic
import Derived.BigQuiet
import Derived.Deep.LoopGhost
import Derived.Laws.EntriesVeiled
import Derived.Lib.SliceRun
import Derived.OwnWalk
import Derived.Laws.AppendOwn
import Derived.Deep.AppendLies
import Derived.Outline
section
/- The reader's steps: the walk. -/
namespace Go.Proofs.Ytinhlaiogkmkfaa.G
open Go.RowKit
attribute [local simp, local go_sem] alloc_drewN setCell_drewN
set_option linter.unusedVariables false
set_option linter.unusedSimpArgs false
set_option maxRecDepth 100000
theorem infoStep : (Try.prog.info? 151).map (fun i => (i.zero, i.size, i.bytes)) = some (some (.agg #[.bool false, .nilFunc]), 2, 16) := by kernel_rfl
/-- A step: may it match many bytes; which byte it fits. -/
structure Stp where
  many : Bool
  fits : Int → Bool
/-- .. and the function that it holds. -/
structure Stq where
  s : Stp
  fn : Nat
  cp : Array Value
def stqCells (l : List Stq) : List Value := l.flatMap fun q => [.bool q.s.many, .func (.func q.fn) #[] q.cp]
theorem stqCells_append (l m : List Stq) : stqCells (l ++ m) = stqCells l ++ stqCells m := by simp [stqCells]
theorem stqCells_at (l : List Stq) : ∀ i q, l[i]? = some q → (stqCells l)[i * 2]? = some (.bool q.s.many) ∧ (stqCells l)[i * 2 + 1]? = some (.func (.func q.fn) #[] q.cp) := by
  induction l with
  | nil => intro i q h; simp at h
  | cons s l ih =>
    intro i q h
    cases i with
    | zero => simp at h; subst h; simp [stqCells]
    | succ i =>
      have := ih i q (by simpa using h)
      simp only [stqCells, List.flatMap_cons] at this ⊢
      rw [show (i + 1) * 2 = i * 2 + 2 from by omega]
      simpa using this
/-- The slice v holds the steps l. -/
def IsSteps (w : World) (base : Nat) (v : Value) (l : List Stq) : Prop := w.ownsRow base 151 2 v l.length (stqCells l) ∧ ∀ q ∈ l, Fits w (.func (.func q.fn) #[] q.cp) q.s.fits
theorem classGo_ge0 (p : ByteArray) (fr : Nat) : ∀ (n x : Nat) (y : Int) (l : List (Int × Int)), p.size - x ≤ n → x ≤ (classGo p fr x y l).1 := by
  intro n
  induction n with
  | zero =>
    intro x y l h
    rw [classGo, dif_neg (by omega)]
    exact Nat.le_refl _
  | succ n ih =>
    intro x y l h
    rw [classGo]
    have h1 := byteA_lt p x
    have h2 := byteA_lt p (byteA p x + 1)
    split
    · split
      · exact Nat.le_trans (by omega) (ih _ _ _ (by omega))
      · exact Nat.le_trans (by omega) (ih _ _ _ (by omega))
    · exact Nat.le_refl _
theorem classGo_ge (p : ByteArray) (fr : Nat) (x : Nat) (y : Int) (l : List (Int × Int)) : x ≤ (classGo p fr x y l).1 := classGo_ge0 p fr _ x y l (Nat.le_refl _)
theorem classGo_le (p : ByteArray) (fr : Nat) : ∀ (n x : Nat) (y : Int) (l : List (Int × Int)), p.size - x ≤ n → x ≤ p.size → (classGo p fr x y l).1 ≤ p.size := by
  intro n
  induction n with
  | zero =>
    intro x y l h hx
    rw [classGo, dif_neg (by omega)]
    exact hx
  | succ n ih =>
    intro x y l h hx
    rw [classGo]
    split
    · rename_i hc
      have h1 := byteA_lt p x
      have h2 := byteA_lt p (byteA p x + 1)
      have h3 := byteA_le p x hc.1
      split
      · rename_i hd
        exact ih _ _ _ (by omega) (byteA_le p _ hd.1)
      · exact ih _ _ _ (by omega) h3
    · exact hx
/-- The brackets that stand at place x: their ranges. -/
def clsF (p : ByteArray) (x : Nat) (y : Int) : Nat × Int × List (Int × Int) := classGo p x (if notAt p (x + 1) then x + 2 else x + 1) y []
theorem clsF_gt (p : ByteArray) (x : Nat) (y : Int) : x + 1 ≤ (clsF p x y).1 := Nat.le_trans (by split <;> omega) (classGo_ge p x _ y [])
theorem clsF_le (p : ByteArray) (x : Nat) (y : Int) (h : x < p.size) : (clsF p x y).1 ≤ p.size := by
  refine classGo_le p x _ _ y [] (Nat.le_refl _) ?_
  split
  · rename_i hn
    exact notAt_lt hn
  · exact h
/-- A pattern's steps from place x on: the first wrong place, the steps. -/
def stepsGo (p : ByteArray) (x : Nat) (y : Int) (l : List Stp) : Int × List Stp :=
  if h : x < p.size then
    if bt p x = 42 then
      if x + 1 < p.size ∧ bt p (x + 1) = 42 then stepsGo p (x + 2) y (l ++ [⟨true, fun _ => true⟩])
      else stepsGo p (x + 1) y (l ++ [⟨true, fun c => c != 47⟩])
    else if bt p x = 63 then stepsGo p (x + 1) y (l ++ [⟨false, fun c => c != 47⟩])
    else if bt p x = 91 then
      stepsGo p ((clsF p x y).1 + 1) (classBad p x (clsF p x y)) (l ++ [⟨false, classL (clsF p x y).2.2 (notAt p (x + 1))⟩])
    else stepsGo p (byteA p x) (byteB p x y) (l ++ [⟨false, fun c => c == byteV p x⟩])
  else (y, l)
termination_by p.size - x
decreasing_by
  all_goals
    have h1 := byteA_lt p x
    have h2 := clsF_gt p x y
    omega
theorem IsSteps.move {w w' : World} {S : Nat → Prop} {base : Nat} {v : Value} {l : List Stq} (h : IsSteps w base v l) (hb : But S w w') (hS : ∀ k, k < w.heap.size → S k → Sty w k)
    (hn : ∀ k, base ≤ k → ¬ S k) : IsSteps w' base v l :=
  ⟨own_but h.1 hb (fun k h1 _ => hn k h1), fun q hq => (h.2 q hq).later hb hS⟩
theorem rd_sty {w : World} {g : Nat} {p : ByteArray} {a b : Int} (h : Rd w g p a b) : ∀ k, k < w.heap.size → One g k → Sty w k := fun k _ e => .inr ⟨_, _, e ▸ h⟩
theorem no_sty {w : World} : ∀ k, k < w.heap.size → No k → Sty w k := fun _ _ h => h.elim
theorem own_typ {w : World} {base : Nat} {e : TypeId} {size n : Nat} {v : Value} {xs : List Value} (h : w.ownsRow base e size v n xs) (k : Nat) (hk : v.ownBlock = some k) : Typ w k e := by
  rcases h.2 with ⟨rfl, _⟩ | ⟨g, cap, cur, rfl, hg, hh, r⟩
  · simp [Value.ownBlock] at hk
  · have : g = k := by simpa [Value.ownBlock] using hk
    subst this
    exact ⟨_, _, hh⟩
theorem IsSteps.push {W w1 : World} {base : Nat} {v v' : Value} {l : List Stq} (h : IsSteps W base v l) (q : Stq) (hq : Fits W (.func (.func q.fn) #[] q.cp) q.s.fits)
    (ho : w1.ownsRow base 151 2 v' (l.length + 1) (stqCells l ++ [.bool q.s.many, .func (.func q.fn) #[] q.cp])) (hg : W.grownBy w1 v.ownBlock) : IsSteps w1 base v' (l ++ [q]) := by
  have hb : But (fun k => some k = v.ownBlock) W w1 := ⟨hg.os, hg.tape, hg.output, hg.size, fun k hk hn => hg.block k hk hn⟩
  have hS : ∀ k, k < W.heap.size → some k = v.ownBlock → Sty W k := fun k _ e => .inl (own_typ h.1 k e.symm)
  refine ⟨?_, fun q' hq' => ?_⟩
  · rw [List.length_append, stqCells_append]
    exact ho
  · rcases List.mem_append.1 hq' with h1 | h1
    · exact (h.2 q' h1).later hb hS
    · rw [List.mem_singleton.1 h1]
      exact hq.later hb hS
theorem own_drewN {w : World} {base : Nat} {e : TypeId} {size n m : Nat} {v : Value} {xs : List Value} (h : w.ownsRow base e size v n xs) : (w.drewN m).ownsRow base e size v n xs := h
theorem IsSteps.drewN {w : World} {base : Nat} {v : Value} {l : List Stq} (h : IsSteps w base v l) (n : Nat) : IsSteps (w.drewN n) base v l := h.move ((But.refl No w).drewN n) no_sty (fun _ _ h => h)
theorem IsSteps.alloc {w : World} {base : Nat} {v : Value} {l : List Stq} (h : IsSteps w base v l) (o : Obj) : IsSteps (w.alloc o) base v l := h.move ((But.refl No w).alloc o) no_sty (fun _ _ h => h)
def StepsAt (w : World) (g : Nat) (p : ByteArray) (G : Int × List Stp) (k : Nat) (v : Value) (wr : World) : Prop :=
  ∃ (x : Nat) (y : Int) (l : List Stq), k = p.size + 1 - x ∧ x ≤ p.size + 1 ∧ l.length ≤ x ∧ Rd wr g p x y ∧ But (One g) w wr ∧ IsSteps wr w.heap.size v l ∧ stepsGo p x y (l.map Stq.s) = G
def StepsPost (w : World) (g : Nat) (p : ByteArray) (G : Int × List Stp) (e : Ending) (w' : World) : Prop :=
  ∃ v l x, e = .returned v ∧ But (One g) w w' ∧ Rd w' g p x G.1 ∧ IsSteps w' w.heap.size v l ∧ l.map Stq.s = G.2 ∧ l.length ≤ p.size + 1
set_option maxHeartbeats 8000000 in
theorem steps0 (g : Nat) (p : ByteArray) (w : World) (h : Rd w g p (0 : Nat) (-1)) (hp : p.size ≤ 256) (G : Int × List Stp) (hG : stepsGo p 0 (-1) [] = G) :
    Calls Try.prog 102 #[.pointer (some ⟨g, 0, none⟩)] w (StepsPost w g p G) := by
  have HG := Lib.hid hG
  clear hG
  have hp' : p.size ≤ 1000 := by omega
  have hg := h.lt
  obtain ⟨i0, hi0, hz0, hz1, hz2⟩ := info_parts infoStep
  go_enter Try.func102, Try.ntmps102
  go_wp2_with fail
  go_loopg [3] (p.size + 1) (fun k v wr => StepsAt w g p G k v wr)
  case atStart => exact ⟨0, -1, [], rfl, Nat.zero_le _, Nat.zero_le _, h, But.refl _ _, ⟨World.ownsRow_nil _ _ _ _, fun q hq => by cases hq⟩, HG.out⟩
  case round =>
    obtain ⟨x, y, l, hkx, hxle, hll, hr, hb, hI, hGo⟩ := hrel
    have HKX := Lib.hid hkx
    have HGo := Lib.hid hGo
    clear hkx hGo HG h
    obtain ⟨A0, c0, rfl⟩ := own_slice hI.1
    rcases Nat.lt_or_ge x p.size with hlt | hge
    · skip
      have h0 := hr.c0
      have h1 := hr.c1
      have f1 := hr.fr 1
      have hbt := bt_at p x hlt
      by_cases c42 : bt p x = 42
      · have c42b : (bt p x == 42) = true := beq_iff_eq.2 c42
        by_cases c1 : x + 1 < p.size
        · have hbt1 := bt_at p (x + 1) c1
          have d1 : decide ((x : Int) + 1 < (p.size : Int)) = true := by simp; omega
          by_cases c2 : bt p (x + 1) = 42
          · have c2b : (bt p (x + 1) == 42) = true := beq_iff_eq.2 c2
            have E := Lib.hid (show stepsGo p x y (l.map Stq.s) = stepsGo p (x + 2) y (l.map Stq.s ++ [⟨true, fun _ => true⟩]) from by rw [stepsGo, dif_pos hlt, if_pos c42, if_pos ⟨c1, c2⟩])
            clear c42 c2
            have hr1 := hr.set1 ((x + 2 : Nat) : Int)
            have hI1 : IsSteps (wr.setCell ⟨g, 1, none⟩ (.int .i64 ((x + 2 : Nat) : Int))) _ _ _ := hI.move ((But.refl (One g) wr).set1 1 _) (rd_sty hr) (fun k hk e => by unfold One at e; omega)
            have hbw := hb.set1 1 (.int .i64 ((x + 2 : Nat) : Int))
            go_wp2_with fail
            refine (end_no g p x y _ hr hp' (by omega)).mono ?_
            rintro e w1 ⟨rfl, n, rfl⟩
            go_wp2_with fail
            go_quiet (fail)
            go_wp2_with fail
            go_quiet (fail)
            go_wp2_with (at_builtin; refine wpList_append_own _ rfl _ _ 111 rfl w.heap.size 151 i0 (.agg #[.bool false, .nilFunc]) 2 16 Try.underlying111 hi0 hz0 hz1 hz2 rfl (by decide) _ _ _ rfl (by repeat (first | exact hI1.1 | apply own_drewN | apply World.ownsRow.alloc)) ⟨wr.heap.size, 0, none⟩ 1 1 [.bool true, .func (.func 114) #[] #[]] rfl rfl ?c1 ?c2 ?c3 ?c4 ?c5 ?_)
            case c1 =>
              intro j u hj
              rcases j with _ | _ | j <;> simp at hj <;> subst hj <;> simp [Addr.add] <;> go_simp
            case c2 =>
              intro u hu
              simp at hu
              rcases hu with rfl | rfl <;> rfl
            case c3 => unfold maxLen; omega
            case c4 => omega
            case c5 => simp; have := hbw.size; (try simp at this); omega
            intro v' w1 hown' hgrow _
            have q0 : Rd w1 g p (x + 2 : Nat) y := by
              refine blk_grown (base := w.heap.size) (e := 151) (size := 2) (n := l.length) (xs := stqCells l) ?_ hgrow ?_ hg
              · show Rd _ g p _ _
                repeat (first | exact hr1 | apply Rd.drewN | apply Rd.alloc)
              · repeat (first | exact hI1.1 | apply own_drewN | apply World.ownsRow.alloc)
            have q3 : But (One g) w w1 := by
              refine But.grow (base := w.heap.size) (e := 151) (size := 2) (n := l.length) (xs := stqCells l) ?_ hgrow ?_ (Nat.le_refl _)
              · repeat (first | exact hbw | apply But.drewN | apply But.alloc)
              · repeat (first | exact hI1.1 | apply own_drewN | apply World.ownsRow.alloc)
            have q4 : IsSteps w1 w.heap.size v' (l ++ [⟨⟨true, fun _ => true⟩, 114, #[]⟩]) := by
              refine IsSteps.push ?_ _ ?_ hown' hgrow
              · repeat (first | exact hI1 | apply IsSteps.drewN | apply IsSteps.alloc)
              · exact all_fits _
            clear hgrow hown' hI1 hI hbw
            go_wp2_with fail
            go_roundg (p.size + 1 - (x + 2))
            case measure => rw [HKX.out]; omega
            case rel =>
              refine ⟨x + 2, y, _, rfl, ?_, ?_, q0, q3, q4, ?_⟩
              · omega
              · simp; omega
              · rw [← HGo.out, E.out, List.map_append]
                rfl

          · have c2b : (bt p (x + 1) == 42) = false := beq_eq_false_iff_ne.2 c2
            have c1' : ¬ (x + 1 < p.size ∧ bt p (x + 1) = 42) := fun h => c2 h.2
            have E := Lib.hid (show stepsGo p x y (l.map Stq.s) = stepsGo p (x + 1) y (l.map Stq.s ++ [⟨true, fun c => c != 47⟩]) from by rw [stepsGo, dif_pos hlt, if_pos c42, if_neg c1'])
            clear c42 c2 c1'
            have hr1 := hr.set1 ((x + 1 : Nat) : Int)
            have hI1 : IsSteps (wr.setCell ⟨g, 1, none⟩ (.int .i64 ((x + 1 : Nat) : Int))) _ _ _ := hI.move ((But.refl (One g) wr).set1 1 _) (rd_sty hr) (fun k hk e => by unfold One at e; omega)
            have hbw := hb.set1 1 (.int .i64 ((x + 1 : Nat) : Int))
            go_wp2_with fail
            refine (end_no g p x y _ hr hp' (by omega)).mono ?_
            rintro e w1 ⟨rfl, n, rfl⟩
            go_wp2_with fail
            go_quiet (fail)
            go_wp2_with fail
            go_quiet (fail)
            go_wp2_with (at_builtin; refine wpList_append_own _ rfl _ _ 111 rfl w.heap.size 151 i0 (.agg #[.bool false, .nilFunc]) 2 16 Try.underlying111 hi0 hz0 hz1 hz2 rfl (by decide) _ _ _ rfl (by repeat (first | exact hI1.1 | apply own_drewN | apply World.ownsRow.alloc)) ⟨wr.heap.size, 0, none⟩ 1 1 [.bool true, .func (.func 115) #[] #[]] rfl rfl ?c1 ?c2 ?c3 ?c4 ?c5 ?_)
            case c1 =>
              intro j u hj
              rcases j with _ | _ | j <;> simp at hj <;> subst hj <;> simp [Addr.add] <;> go_simp
            case c2 =>
              intro u hu
              simp at hu
              rcases hu with rfl | rfl <;> rfl
            case c3 => unfold maxLen; omega
            case c4 => omega
            case c5 => simp; have := hbw.size; (try simp at this); omega
            intro v' w1 hown' hgrow _
            have q0 : Rd w1 g p (x + 1 : Nat) y := by
              refine blk_grown (base := w.heap.size) (e := 151) (size := 2) (n := l.length) (xs := stqCells l) ?_ hgrow ?_ hg
              · show Rd _ g p _ _
                repeat (first | exact hr1 | apply Rd.drewN | apply Rd.alloc)
              · repeat (first | exact hI1.1 | apply own_drewN | apply World.ownsRow.alloc)
            have q3 : But (One g) w w1 := by
              refine But.grow (base := w.heap.size) (e := 151) (size := 2) (n := l.length) (xs := stqCells l) ?_ hgrow ?_ (Nat.le_refl _)
              · repeat (first | exact hbw | apply But.drewN | apply But.alloc)
              · repeat (first | exact hI1.1 | apply own_drewN | apply World.ownsRow.alloc)
            have q4 : IsSteps w1 w.heap.size v' (l ++ [⟨⟨true, fun c => c != 47⟩, 115, #[]⟩]) := by
              refine IsSteps.push ?_ _ ?_ hown' hgrow
              · repeat (first | exact hI1 | apply IsSteps.drewN | apply IsSteps.alloc)
              · exact plain_fits _
            clear hgrow hown' hI1 hI hbw
            go_wp2_with fail
            go_roundg (p.size + 1 - (x + 1))
            case measure => rw [HKX.out]; omega
            case rel =>
              refine ⟨x + 1, y, _, rfl, ?_, ?_, q0, q3, q4, ?_⟩
              · omega
              · simp; omega
              · rw [← HGo.out, E.out, List.map_append]
                rfl

        · have d1 : decide ((x : Int) + 1 < (p.size : Int)) = false := by simp; omega
          have c1' : ¬ (x + 1 < p.size ∧ bt p (x + 1) = 42) := fun h => c1 h.1
          have E := Lib.hid (show stepsGo p x y (l.map Stq.s) = stepsGo p (x + 1) y (l.map Stq.s ++ [⟨true, fun c => c != 47⟩]) from by rw [stepsGo, dif_pos hlt, if_pos c42, if_neg c1'])
          clear c42 c1'
          have hr1 := hr.set1 ((x + 1 : Nat) : Int)
          have hI1 : IsSteps (wr.setCell ⟨g, 1, none⟩ (.int .i64 ((x + 1 : Nat) : Int))) _ _ _ := hI.move ((But.refl (One g) wr).set1 1 _) (rd_sty hr) (fun k hk e => by unfold One at e; omega)
          have hbw := hb.set1 1 (.int .i64 ((x + 1 : Nat) : Int))
          go_wp2_with fail
          refine (end_no g p x y _ hr hp' (by omega)).mono ?_
          rintro e w1 ⟨rfl, n, rfl⟩
          go_wp2_with fail
          go_quiet (fail)
          go_wp2_with fail
          go_quiet (fail)
          go_wp2_with (at_builtin; refine wpList_append_own _ rfl _ _ 111 rfl w.heap.size 151 i0 (.agg #[.bool false, .nilFunc]) 2 16 Try.underlying111 hi0 hz0 hz1 hz2 rfl (by decide) _ _ _ rfl (by repeat (first | exact hI1.1 | apply own_drewN | apply World.ownsRow.alloc)) ⟨wr.heap.size, 0, none⟩ 1 1 [.bool true, .func (.func 115) #[] #[]] rfl rfl ?c1 ?c2 ?c3 ?c4 ?c5 ?_)
          case c1 =>
            intro j u hj
            rcases j with _ | _ | j <;> simp at hj <;> subst hj <;> simp [Addr.add] <;> go_simp
          case c2 =>
            intro u hu
            simp at hu
            rcases hu with rfl | rfl <;> rfl
          case c3 => unfold maxLen; omega
          case c4 => omega
          case c5 => simp; have := hbw.size; (try simp at this); omega
          intro v' w1 hown' hgrow _
          have q0 : Rd w1 g p (x + 1 : Nat) y := by
            refine blk_grown (base := w.heap.size) (e := 151) (size := 2) (n := l.length) (xs := stqCells l) ?_ hgrow ?_ hg
            · show Rd _ g p _ _
              repeat (first | exact hr1 | apply Rd.drewN | apply Rd.alloc)
            · repeat (first | exact hI1.1 | apply own_drewN | apply World.ownsRow.alloc)
          have q3 : But (One g) w w1 := by
            refine But.grow (base := w.heap.size) (e := 151) (size := 2) (n := l.length) (xs := stqCells l) ?_ hgrow ?_ (Nat.le_refl _)
            · repeat (first | exact hbw | apply But.drewN | apply But.alloc)
            · repeat (first | exact hI1.1 | apply own_drewN | apply World.ownsRow.alloc)
          have q4 : IsSteps w1 w.heap.size v' (l ++ [⟨⟨true, fun c => c != 47⟩, 115, #[]⟩]) := by
            refine IsSteps.push ?_ _ ?_ hown' hgrow
            · repeat (first | exact hI1 | apply IsSteps.drewN | apply IsSteps.alloc)
            · exact plain_fits _
          clear hgrow hown' hI1 hI hbw
          go_wp2_with fail
          go_roundg (p.size + 1 - (x + 1))
          case measure => rw [HKX.out]; omega
          case rel =>
            refine ⟨x + 1, y, _, rfl, ?_, ?_, q0, q3, q4, ?_⟩
            · omega
            · simp; omega
            · rw [← HGo.out, E.out, List.map_append]
              rfl

      · have c42b : (bt p x == 42) = false := beq_eq_false_iff_ne.2 c42
        by_cases c63 : bt p x = 63
        · have c63b : (bt p x == 63) = true := beq_iff_eq.2 c63
          have E := Lib.hid (show stepsGo p x y (l.map Stq.s) = stepsGo p (x + 1) y (l.map Stq.s ++ [⟨false, fun c => c != 47⟩]) from by rw [stepsGo, dif_pos hlt, if_neg c42, if_pos c63])
          clear c42 c63
          have hr1 := hr.set1 ((x + 1 : Nat) : Int)
          have hI1 : IsSteps (wr.setCell ⟨g, 1, none⟩ (.int .i64 ((x + 1 : Nat) : Int))) _ _ _ := hI.move ((But.refl (One g) wr).set1 1 _) (rd_sty hr) (fun k hk e => by unfold One at e; omega)
          have hbw := hb.set1 1 (.int .i64 ((x + 1 : Nat) : Int))
          go_wp2_with fail
          refine (end_no g p x y _ hr hp' (by omega)).mono ?_
          rintro e w1 ⟨rfl, n, rfl⟩
          go_wp2_with fail
          go_quiet (fail)
          go_wp2_with fail
          go_quiet (fail)
          go_wp2_with (at_builtin; refine wpList_append_own _ rfl _ _ 111 rfl w.heap.size 151 i0 (.agg #[.bool false, .nilFunc]) 2 16 Try.underlying111 hi0 hz0 hz1 hz2 rfl (by decide) _ _ _ rfl (by repeat (first | exact hI1.1 | apply own_drewN | apply World.ownsRow.alloc)) ⟨wr.heap.size, 0, none⟩ 1 1 [.bool false, .func (.func 115) #[] #[]] rfl rfl ?c1 ?c2 ?c3 ?c4 ?c5 ?_)
          case c1 =>
            intro j u hj
            rcases j with _ | _ | j <;> simp at hj <;> subst hj <;> simp [Addr.add] <;> go_simp
          case c2 =>
            intro u hu
            simp at hu
            rcases hu with rfl | rfl <;> rfl
          case c3 => unfold maxLen; omega
          case c4 => omega
          case c5 => simp; have := hbw.size; (try simp at this); omega
          intro v' w1 hown' hgrow _
          have q0 : Rd w1 g p (x + 1 : Nat) y := by
            refine blk_grown (base := w.heap.size) (e := 151) (size := 2) (n := l.length) (xs := stqCells l) ?_ hgrow ?_ hg
            · show Rd _ g p _ _
              repeat (first | exact hr1 | apply Rd.drewN | apply Rd.alloc)
            · repeat (first | exact hI1.1 | apply own_drewN | apply World.ownsRow.alloc)
          have q3 : But (One g) w w1 := by
            refine But.grow (base := w.heap.size) (e := 151) (size := 2) (n := l.length) (xs := stqCells l) ?_ hgrow ?_ (Nat.le_refl _)
            · repeat (first | exact hbw | apply But.drewN | apply But.alloc)
            · repeat (first | exact hI1.1 | apply own_drewN | apply World.ownsRow.alloc)
          have q4 : IsSteps w1 w.heap.size v' (l ++ [⟨⟨false, fun c => c != 47⟩, 115, #[]⟩]) := by
            refine IsSteps.push ?_ _ ?_ hown' hgrow
            · repeat (first | exact hI1 | apply IsSteps.drewN | apply IsSteps.alloc)
            · exact plain_fits _
          clear hgrow hown' hI1 hI hbw
          go_wp2_with fail
          go_roundg (p.size + 1 - (x + 1))
          case measure => rw [HKX.out]; omega
          case rel =>
            refine ⟨x + 1, y, _, rfl, ?_, ?_, q0, q3, q4, ?_⟩
            · omega
            · simp; omega
            · rw [← HGo.out, E.out, List.map_append]
              rfl

        · skip
          have c63b : (bt p x == 63) = false := beq_eq_false_iff_ne.2 c63
          by_cases c91 : bt p x = 91
          · have c91b : (bt p x == 91) = true := beq_iff_eq.2 c91
            have E := Lib.hid (show stepsGo p x y (l.map Stq.s) = stepsGo p ((clsF p x y).1 + 1) (classBad p x (clsF p x y)) (l.map Stq.s ++ [⟨false, classL (clsF p x y).2.2 (notAt p (x + 1))⟩]) from by rw [stepsGo, dif_pos hlt, if_neg c42, if_neg c63, if_pos c91])
            clear c42 c63 c91
            have z1 := clsF_gt p x y
            have z2 := clsF_le p x y hlt
            have hr2 := hr.set1 ((x + 1 : Nat) : Int)
            have hI2 : IsSteps (wr.setCell ⟨g, 1, none⟩ (.int .i64 ((x + 1 : Nat) : Int))) _ _ _ := hI.move ((But.refl (One g) wr).set1 1 _) (rd_sty hr) (fun k hk e => by unfold One at e; omega)
            have hbw2 := hb.set1 1 (.int .i64 ((x + 1 : Nat) : Int))
            go_wp2_with fail
            refine (end_no g p x y _ hr hp' (by omega)).mono ?_
            rintro e w1 ⟨rfl, n, rfl⟩
            go_wp2_with fail
            go_quiet (fail)
            go_wp2_with fail
            go_quiet (fail)
            go_wp2_with fail
            refine (class0 g p (x + 1) y _ (by exact hr2.drewN _) hp hlt (Nat.succ_le_succ (Nat.zero_le x)) (notAt p (x + 1)) rfl (clsF p x y) rfl).mono ?_
            rintro e w2 ⟨f, rfl, hbb, hr1, hfit, fn, cp, rfl⟩
            rw [Nat.add_sub_cancel] at hr1
            have hI1 := (hI2.drewN _).move hbb (rd_sty (hr2.drewN _)) (fun k hk e => by unfold One at e; omega)
            have hbw := (hbw2.drewN _).trans hbb
            clear hbb hI2 hbw2
            generalize hF0 : (clsF p x y).1 = f0 at *
            generalize hF1 : classBad p x (clsF p x y) = y1 at *
            have HF1 := Lib.hid hF1
            clear hF1 hF0
            go_wp2_with (at_builtin; refine wpList_append_own _ rfl _ _ 111 rfl w.heap.size 151 i0 (.agg #[.bool false, .nilFunc]) 2 16 Try.underlying111 hi0 hz0 hz1 hz2 rfl (by decide) _ _ _ rfl (by repeat (first | exact hI1.1 | apply own_drewN | apply World.ownsRow.alloc)) ⟨w2.heap.size, 0, none⟩ 1 1 [.bool false, .func (.func fn) #[] cp] rfl rfl ?c1 ?c2 ?c3 ?c4 ?c5 ?_)
            case c1 =>
              intro j u hj
              rcases j with _ | _ | j <;> simp at hj <;> subst hj <;> simp [Addr.add] <;> go_simp
            case c2 =>
              intro u hu
              simp at hu
              rcases hu with rfl | rfl <;> rfl
            case c3 => unfold maxLen; omega
            case c4 => omega
            case c5 => simp; have := hbw.size; (try simp at this); omega
            intro v' w1 hown' hgrow _
            have q0 : Rd w1 g p (f0 + 1 : Nat) y1 := by
              refine blk_grown (base := w.heap.size) (e := 151) (size := 2) (n := l.length) (xs := stqCells l) ?_ hgrow ?_ hg
              · show Rd _ g p _ _
                repeat (first | exact hr1 | apply Rd.drewN | apply Rd.alloc)
              · repeat (first | exact hI1.1 | apply own_drewN | apply World.ownsRow.alloc)
            have q3 : But (One g) w w1 := by
              refine But.grow (base := w.heap.size) (e := 151) (size := 2) (n := l.length) (xs := stqCells l) ?_ hgrow ?_ (Nat.le_refl _)
              · repeat (first | exact hbw | apply But.drewN | apply But.alloc)
              · repeat (first | exact hI1.1 | apply own_drewN | apply World.ownsRow.alloc)
            have q4 : IsSteps w1 w.heap.size v' (l ++ [⟨⟨false, classL (clsF p x y).2.2 (notAt p (x + 1))⟩, fn, cp⟩]) := by
              refine IsSteps.push ?_ _ ?_ hown' hgrow
              · repeat (first | exact hI1 | apply IsSteps.drewN | apply IsSteps.alloc)
              · exact hfit.later ((But.refl No w2).alloc _) no_sty
            clear hgrow hown' hI1 hI hbw
            go_wp2_with fail
            go_roundg (p.size + 1 - (f0 + 1))
            case measure => rw [HKX.out]; omega
            case rel =>
              refine ⟨f0 + 1, y1, _, rfl, ?_, ?_, q0, q3, q4, ?_⟩
              · omega
              · simp; omega
              · rw [← HGo.out, E.out, List.map_append]
                rfl

          · have c91b : (bt p x == 91) = false := beq_eq_false_iff_ne.2 c91
            have E := Lib.hid (show stepsGo p x y (l.map Stq.s) = stepsGo p (byteA p x) (byteB p x y) (l.map Stq.s ++ [⟨false, fun c => c == byteV p x⟩]) from by rw [stepsGo, dif_pos hlt, if_neg c42, if_neg c63, if_neg c91])
            clear c42 c63 c91
            have z1 := byteA_lt p x
            have z2 := byteA_le p x hlt
            go_wp2_with fail
            refine (end_no g p x y _ hr hp' (by omega)).mono ?_
            rintro e w1 ⟨rfl, n, rfl⟩
            go_wp2_with fail
            go_quiet (fail)
            go_wp2_with fail
            go_quiet (fail)
            go_wp2_with fail
            refine (byte_ g p x y _ (by exact hr.drewN _) hp' hlt).mono ?_
            rintro e w2 ⟨rfl, hbb, hr2⟩
            have hI2 := (hI.drewN _).move hbb (rd_sty (hr.drewN _)) (fun k hk e => by unfold One at e; omega)
            have hbw2 := (hb.drewN _).trans hbb
            clear hbb
            go_wp2_with fail
            refine (one0 (byteV p x) w2).mono ?_
            rintro e w3 ⟨rfl, rfl⟩
            have hI1 := hI2.alloc (.cells #[.int .u8 (byteV p x)] 5)
            have hbw := hbw2.alloc (.cells #[.int .u8 (byteV p x)] 5)
            have hr1 := hr2.alloc (.cells #[.int .u8 (byteV p x)] 5)
            go_wp2_with (at_builtin; refine wpList_append_own _ rfl _ _ 111 rfl w.heap.size 151 i0 (.agg #[.bool false, .nilFunc]) 2 16 Try.underlying111 hi0 hz0 hz1 hz2 rfl (by decide) _ _ _ rfl (by repeat (first | exact hI1.1 | apply own_drewN | apply World.ownsRow.alloc)) ⟨w2.heap.size + 1, 0, none⟩ 1 1 [.bool false, .func (.func 123) #[] #[.pointer (some ⟨w2.heap.size, 0, none⟩)]] rfl rfl ?c1 ?c2 ?c3 ?c4 ?c5 ?_)
            case c1 =>
              intro j u hj
              rcases j with _ | _ | j <;> simp at hj <;> subst hj <;> simp [Addr.add] <;> go_simp
            case c2 =>
              intro u hu
              simp at hu
              rcases hu with rfl | rfl <;> rfl
            case c3 => unfold maxLen; omega
            case c4 => omega
            case c5 => simp; have := hbw.size; (try simp at this); omega
            intro v' w1 hown' hgrow _
            have q0 : Rd w1 g p (byteA p x : Nat) (byteB p x y) := by
              refine blk_grown (base := w.heap.size) (e := 151) (size := 2) (n := l.length) (xs := stqCells l) ?_ hgrow ?_ hg
              · show Rd _ g p _ _
                repeat (first | exact hr1 | apply Rd.drewN | apply Rd.alloc)
              · repeat (first | exact hI1.1 | apply own_drewN | apply World.ownsRow.alloc)
            have q3 : But (One g) w w1 := by
              refine But.grow (base := w.heap.size) (e := 151) (size := 2) (n := l.length) (xs := stqCells l) ?_ hgrow ?_ (Nat.le_refl _)
              · repeat (first | exact hbw | apply But.drewN | apply But.alloc)
              · repeat (first | exact hI1.1 | apply own_drewN | apply World.ownsRow.alloc)
            have q4 : IsSteps w1 w.heap.size v' (l ++ [⟨⟨false, fun c => c == byteV p x⟩, 123, #[.pointer (some ⟨w2.heap.size, 0, none⟩)]⟩]) := by
              refine IsSteps.push ?_ _ ?_ hown' hgrow
              · repeat (first | exact hI1 | apply IsSteps.drewN | apply IsSteps.alloc)
              · exact (one_fits (byteV p x) w2).later ((But.refl No _).alloc _) no_sty
            clear hgrow hown' hI1 hI hbw
            go_wp2_with fail
            go_roundg (p.size + 1 - (byteA p x))
            case measure => rw [HKX.out]; omega
            case rel =>
              refine ⟨byteA p x, (byteB p x y), _, rfl, ?_, ?_, q0, q3, q4, ?_⟩
              · omega
              · simp; omega
              · rw [← HGo.out, E.out, List.map_append]
                rfl

    · have E := Lib.hid (show stepsGo p x y (l.map Stq.s) = (y, l.map Stq.s) from by rw [stepsGo, dif_neg (by omega)])
      go_wp2_with fail
      refine (end_yes g p x y _ hr hp' (by omega)).mono ?_
      rintro e w1 ⟨rfl, n, rfl⟩
      go_wp2_with fail
      go_ret
      refine ⟨_, l, x, rfl, hb.drewN _, ?_, hI.move ((But.refl No wr).drewN n) no_sty (fun _ _ h => h), ?_, by omega⟩
      · rw [← HGo.out, E.out]; exact hr
      · rw [← HGo.out, E.out]
end Go.Proofs.Ytinhlaiogkmkfaa.G
end
section
/- read and Check. -/
namespace Go.Proofs.Ytinhlaiogkmkfaa.G
open Go.RowKit
attribute [local simp, local go_sem] alloc_drewN setCell_drewN
set_option linter.unusedVariables false
set_option linter.unusedSimpArgs false
set_option maxRecDepth 100000
def gSteps (p : ByteArray) : Int × List Stp := stepsGo p 0 (-1) []
def ReadPost (p : ByteArray) (w : World) (e : Ending) (w' : World) : Prop :=
  But No w w' ∧ ((256 < p.size ∧ e = .returned (.tuple #[.slice none 0 0, .int .i64 0, .int .i64 61])) ∨
    (p.size ≤ 256 ∧ 0 ≤ (gSteps p).1 ∧ e = .returned (.tuple #[.slice none 0 0, .int .i64 (gSteps p).1, .int .i64 60])) ∨
    (p.size ≤ 256 ∧ (gSteps p).1 < 0 ∧ ∃ v l, e = .returned (.tuple #[v, .int .i64 0, .int .i64 0]) ∧ IsSteps w' w.heap.size v l ∧ l.map Stq.s = (gSteps p).2 ∧ l.length ≤ p.size + 1))
set_option maxHeartbeats 4000000 in
theorem read0 (p : ByteArray) (w : World) (hp : p.size ≤ 9223372036854775807) :
    Calls Try.prog 83 #[.string p] w (ReadPost p w) := by
  have hp2 : p.size ≤ 9223372036854775807 := by omega
  by_cases h1 : 256 < p.size
  · go_enter Try.func83, Try.ntmps83
    go_wp2_with fail
    go_ret3
    exact ⟨But.refl _ _, .inl ⟨h1, rfl⟩⟩
  · have h2 : p.size ≤ 256 := by omega
    have hr : Rd (w.alloc (.cells #[.string p, .int .i64 0, .int .i64 (-1)] 138)) w.heap.size p (0 : Nat) (-1) := heap_alloc_new w _
    go_enter Try.func83, Try.ntmps83
    go_wp2_with fail
    refine (steps0 w.heap.size p _ hr h2 (gSteps p) rfl).mono ?_
    rintro e w1 ⟨v, l, x, rfl, hb, hr1, hI, hl, hlen⟩
    have hb1 : But No w w1 := ((But.refl No w).alloc _).trans_ hb (fun b hb e => by unfold One at e; omega)
    have hI1 : IsSteps w1 w.heap.size v l := ⟨own_mono hI.1 (by simp), hI.2⟩
    have c2 := hr1.c2
    clear hb hI
    obtain ⟨b, hbE⟩ : ∃ b, (gSteps p).1 = b := ⟨_, rfl⟩
    rw [hbE] at c2
    have HBE := Lib.hid hbE
    clear hbE hr1
    by_cases h3 : 0 ≤ b
    · go_wp2_with fail
      go_quiet (fail)
      go_wp2_with fail
      go_ret3
      exact ⟨hb1.drewN _, .inr (.inl ⟨h2, by rw [HBE.out]; exact h3, by rw [HBE.out]; rfl⟩)⟩
    · go_wp2_with fail
      go_ret3
      exact ⟨hb1, .inr (.inr ⟨h2, by rw [HBE.out]; omega, v, l, rfl, hI1, hl, hlen⟩)⟩
def checkRes (p : ByteArray) : Int × Int := if 256 < p.size then (0, 61) else if 0 ≤ (gSteps p).1 then ((gSteps p).1, 60) else (0, 0)
set_option maxHeartbeats 4000000 in
theorem check0 (p : ByteArray) (w : World) (hp : p.size ≤ 9223372036854775807) :
    Calls Try.prog 66 #[.string p] w fun e w' => e = .returned (.tuple #[.int .i64 (checkRes p).1, .int .i64 (checkRes p).2]) ∧ But No w w' := by
  go_enter Try.func66, Try.ntmps66
  go_wp2_with fail
  refine (read0 p w hp).mono ?_
  rintro e w1 ⟨hb, h⟩
  rcases h with ⟨h1, rfl⟩ | ⟨h1, h2, rfl⟩ | ⟨h1, h2, v, l, rfl, _, _, _⟩
  · have E := Lib.hid (show checkRes p = (0, 61) from if_pos h1)
    go_wp2_with fail
    go_ret2
    exact ⟨by rw [E.out]; rfl, hb⟩
  · have E := Lib.hid (show checkRes p = ((gSteps p).1, 60) from (if_neg (by omega)).trans (if_pos h2))
    go_wp2_with fail
    go_ret2
    exact ⟨by rw [E.out]; rfl, hb⟩
  · have E := Lib.hid (show checkRes p = (0, 0) from (if_neg (by omega)).trans (if_neg (by omega)))
    go_wp2_with fail
    go_ret2
    exact ⟨by rw [E.out]; rfl, hb⟩
end Go.Proofs.Ytinhlaiogkmkfaa.G
end
section
namespace Go.Proofs.Ytinhlaiogkmkfaa.G
open Go.RowKit
attribute [local simp, local go_sem] alloc_drewN setCell_drewN
/-- what 'through' does to the marks: from place k on. -/
def thruTo (many : Nat → Bool) : Nat → (Nat → Bool) → Nat → Bool
  | 0, at_ => at_
  | k + 1, at_ => fun j => if j = k + 1 ∧ many k = true ∧ thruTo many k at_ k = true then true else thruTo many k at_ j
def rowB (n : Nat) (f : Nat → Bool) : Array Value := ((List.range n).map (fun j => Value.bool (f j))).toArray
theorem rowB_size (n : Nat) (f : Nat → Bool) : (rowB n f).size = n := by simp [rowB]
theorem rowB_get (n : Nat) (f : Nat → Bool) (i : Nat) (h : i < (rowB n f).size) : (rowB n f)[i] = .bool (f i) := by simp [rowB]
theorem rowB_set (n : Nat) (f : Nat → Bool) (i : Nat) (b : Bool) : (rowB n f).setIfInBounds i (.bool b) = rowB n (fun j => if j = i then b else f j) := by
  apply Array.ext
  · simp [rowB]
  · intro j h1 h2
    simp only [rowB_size, Array.size_setIfInBounds] at h1
    rw [Array.getElem_setIfInBounds (by simpa [rowB_size] using h1)]
    by_cases e : i = j
    · subst e; simp [rowB_get]
    · rw [if_neg e]; simp [rowB_get, Ne.symm e]

theorem thru_yes {wr : World} {n k g : Nat} {many at_ : Nat → Bool} (hb : wr.heap[g]? = some (.cells (rowB (n + 1) (thruTo many k at_)) 4 (0, 0)))
    (h1 : many k = true) (h2 : thruTo many k at_ k = true) (o : Obj) :
    ((wr.setCell ⟨g, k + 1, none⟩ (.bool true)).alloc o).heap[g]? = some (.cells (rowB (n + 1) (thruTo many (k + 1) at_)) 4 (0, 0)) := by
  rw [blkold (blkset hb (k + 1) (.bool true)) o, rowB_set]
  congr 3
  funext j
  simp [thruTo, h1, h2]
theorem thru_no {wr : World} {n k g : Nat} {many at_ : Nat → Bool} (hb : wr.heap[g]? = some (.cells (rowB (n + 1) (thruTo many k at_)) 4 (0, 0)))
    (h : many k = false ∨ thruTo many k at_ k = false) (o : Obj) :
    (wr.alloc o).heap[g]? = some (.cells (rowB (n + 1) (thruTo many (k + 1) at_)) 4 (0, 0)) := by
  rw [blkold hb o]
  congr 3
  funext j
  rcases h with h | h <;> simp [thruTo, h]

set_option maxHeartbeats 1000000 in
theorem through (n cap b : Nat) (many : Nat → Bool) (fn : Nat → Nat) (cp : Nat → Array Value) (g : Nat) (at_ : Nat → Bool) (w : World)
    (hm : ∀ i, i < n → w.cell? ⟨b, i * 2, none⟩ = some (.bool (many i)))
    (hf : ∀ i, i < n → w.cell? ⟨b, i * 2 + 1, none⟩ = some (.func (.func (fn i)) #[] (cp i)))
    (hlen : n ≤ 1000) (hg : b ≠ g)
    (hat : w.heap[g]? = some (.cells (rowB (n + 1) at_) 4 (0, 0))) :
    Calls Try.prog 112 #[.slice (some ⟨b, 0, none⟩) n cap, .slice (some ⟨g, 0, none⟩) (n + 1) (n + 1)] w fun e w' => e = .returned (.tuple #[]) ∧ But (One g) w w' ∧ w'.heap[g]? = some (.cells (rowB (n + 1) (thruTo many n at_)) 4 (0, 0)) := by
  have hlen' : n ≤ 9223372036854775807 := by omega
  go_enter Try.func112, Try.ntmps112
  go_wp2
  go_loopw [8] (fun i wr => ∃ k, k ≤ n ∧ i = .int .i64 k ∧ But (One g) w wr ∧ wr.heap[g]? = some (.cells (rowB (n + 1) (thruTo many k at_)) 4 (0, 0))) (fun i _ => n - (intOf i).toNat)
  case atStart => exact ⟨0, Nat.zero_le _, rfl, But.refl _ _, hat⟩
  case round =>
    obtain ⟨k, hk, rfl, hb, hrow⟩ := hrel
    by_cases hlt : k < n
    · have h1 := hb.cell_some (hm k hlt) hg
      have h2 := hb.cell_some (hf k hlt) hg
      have h3 := blkcell hrow k (by rw [rowB_size]; omega)
      rw [rowB_get] at h3
      have hgl := lt_of_block hrow
      have h4 := blkfree hrow (k + 1)
      have h5 := blkcell hrow (k + 1) (by rw [rowB_size]; omega)
      cases e1 : many k
      · rw [e1] at h1
        have g1 := thru_no hrow (.inl e1)
        go_wp2
        go_roundw
        case rel => exact ⟨k + 1, by omega, by go_num, hb.alloc _, g1 _⟩
        case measure => simp [intOf]; omega
      · rw [e1] at h1
        cases e2 : thruTo many k at_ k
        · rw [e2] at h3
          have g1 := thru_no hrow (.inr e2)
          go_wp2
          go_roundw
          case rel => exact ⟨k + 1, by omega, by go_num, hb.alloc _, g1 _⟩
          case measure => simp [intOf]; omega
        · rw [e2] at h3
          have g1 := thru_yes hrow e1 e2
          go_wp2
          go_roundw
          case rel => exact ⟨k + 1, by omega, by go_num, (hb.setCell (.inl (one_self _)) _).alloc _, g1 _⟩
          case measure => simp [intOf]; omega
    · go_wp2
      go_end0
      exact ⟨rfl, hb, by have : k = n := by omega
                         subst this; exact hrow⟩
end Go.Proofs.Ytinhlaiogkmkfaa.G
end
section
/- Match: words. -/
namespace Go.Proofs.Ytinhlaiogkmkfaa.G
open Go.RowKit
attribute [local simp, local go_sem] alloc_drewN setCell_drewN
set_option linter.unusedVariables false
set_option linter.unusedSimpArgs false
set_option maxRecDepth 100000
theorem infoBool : (Try.prog.info? 4).map (fun i => (i.zero, i.size, i.bytes)) = some (some (.bool false), 1, 1) := by kernel_rfl
theorem zeroBool (w : World) : (zeroValue 4).run Try.prog w = .ok (.bool false) w := by kernel_rfl
def none_ : Nat → Bool := fun _ => false
theorem rowB_none (n : Nat) : rowB n none_ = (List.replicate n (Value.bool false)).toArray := by
  unfold rowB none_
  congr 1
  exact List.map_const' ..  |>.trans (by simp)
theorem madeB (n : Nat) : madeCells #[.bool false] n = rowB n none_ := by
  rw [rowB_none]
  apply Array.ext'
  simp only [toList_madeCells_one]
theorem run_makeB (n : Nat) (h : n ≤ 1000) (w : World) : (Instr.makeSlice 110 (.int .i64 ((n : Int) + 1)) (.int .i64 ((n : Int) + 1))).run Try.prog w =
    .ok (.slice (some ⟨w.heap.size, 0, none⟩) (n + 1) (n + 1)) (w.alloc (.cells (rowB (n + 1) none_) 4)) := by
  obtain ⟨i0, hi0, hz0, hz1, hz2⟩ := info_parts infoBool
  have := run_make (P := Try.prog) (w := w) 110 4 i0 (.bool false) Try.underlying110 hi0 hz0 .i64 .i64 ((n : Int) + 1) ((n : Int) + 1) (by omega) (Int.le_refl _) (by rw [hz2]; omega) (by omega)
  rw [this, hz1]
  have e : ((n : Int) + 1).toNat = n + 1 := by omega
  rw [e, Nat.mul_one]
  show Result.ok _ (w.alloc (.cells (madeCells #[.bool false] (n + 1)) _)) = _
  rw [madeB]
theorem run_clearB (w : World) (g n c : Nat) (f : Nat → Bool) (hg : w.heap[g]? = some (.cells (rowB (n + 1) f) 4 (0, 0))) (ty : TypeId) :
    (Builtin.clear_ #[110] ty #[.slice (some ⟨g, 0, none⟩) (n + 1) c]).run Try.prog w = .ok (.tuple #[]) (w.setRow g (rowB (n + 1) none_)) := by
  have h1 : (Builtin.zeroCells #[Value.bool false] (n + 1)).toList = List.replicate (n + 1) (Value.bool false) := by
    have := toList_madeCells_one (Value.bool false) (n + 1)
    simpa [Builtin.zeroCells, madeCells] using this
  have h2 := run_storeCells_from (P := Try.prog) g 4 (List.replicate (n + 1) (Value.bool false)) 0 (rowB (n + 1) f) w hg (by simp [rowB_size]) (by intro v hv; rw [List.eq_of_mem_replicate hv]; rfl)
  simp only [List.take_zero, List.nil_append] at h2
  rw [← rowB_none] at h2
  simp [Builtin.clear_, run_underlying Try.underlying110, zeroBool, Value.cells, h1, h2]
theorem setRow_other (w : World) (g k : Nat) (cs : Array Value) (h : k ≠ g) : (w.setRow g cs).heap[k]? = w.heap[k]? := by
  simp only [World.setRow, Array.getElem?_modify]
  rw [if_neg (by omega)]
theorem But.setRow {S : Nat → Prop} {w w' : World} (h : But S w w') {g : Nat} (hp : S g ∨ w.heap.size ≤ g) (cs : Array Value) : But S w (w'.setRow g cs) :=
  h.trans_ (S' := One g) ⟨rfl, rfl, rfl, by simp [World.setRow], fun k _ hn => setRow_other _ _ _ _ hn⟩
    (fun b hb e => by cases hp with
      | inl hp => exact e ▸ hp
      | inr hp => exact absurd hb (by unfold One at e; omega))
/-- Where the marks go when byte c is read, steps 0 to k - 1. -/
def nextTo (L : List Stp) (S : Nat → Bool) (c : Int) : Nat → Nat → Bool
  | 0 => none_
  | k + 1 => fun j => match L[k]? with
    | some q => if S k = true ∧ q.fits c = true ∧ j = (if q.many then k else k + 1) then true else nextTo L S c k j
    | none => nextTo L S c k j
def manyOf (L : List Stp) (i : Nat) : Bool := match L[i]? with
  | some q => q.many
  | none => false
def start (L : List Stp) : Nat → Bool := thruTo (manyOf L) L.length (fun j => j == 0)
def stepOn (L : List Stp) (S : Nat → Bool) (c : Int) : Nat → Bool := thruTo (manyOf L) L.length (nextTo L S c L.length)
def marks (L : List Stp) (s : ByteArray) : Nat → Nat → Bool
  | 0 => start L
  | k + 1 => stepOn L (marks L s k) (bt s k)
def matchRes (p s : ByteArray) : Bool × Int := if (checkRes p).2 = 0 then (marks (gSteps p).2 s s.size (gSteps p).2.length, 0) else (false, (checkRes p).2)
theorem through_any (n cap : Nat) (A : Option Addr) (many : Nat → Bool) (fn : Nat → Nat) (cp : Nat → Array Value) (g : Nat) (at_ : Nat → Bool) (w : World)
    (hA : ∀ i, i < n → ∃ b, A = some ⟨b, 0, none⟩ ∧ b ≠ g ∧ w.cell? ⟨b, i * 2, none⟩ = some (.bool (many i)) ∧ w.cell? ⟨b, i * 2 + 1, none⟩ = some (.func (.func (fn i)) #[] (cp i)))
    (hlen : n ≤ 1000)
    (hat : w.heap[g]? = some (.cells (rowB (n + 1) at_) 4 (0, 0))) :
    Calls Try.prog 112 #[.slice A n cap, .slice (some ⟨g, 0, none⟩) (n + 1) (n + 1)] w fun e w' => e = .returned (.tuple #[]) ∧ But (One g) w w' ∧ w'.heap[g]? = some (.cells (rowB (n + 1) (thruTo many n at_)) 4 (0, 0)) := by
  rcases Nat.eq_zero_or_pos n with h0 | h0
  · subst h0
    go_enter Try.func112, Try.ntmps112
    go_wp2
    go_loopw [8] (fun i wr => i = .int .i64 0 ∧ wr = w) (fun i _ => 0)
    case atStart => exact ⟨rfl, rfl⟩
    case round =>
      obtain ⟨rfl, rfl⟩ := hrel
      go_wp2
      go_end0
      exact ⟨rfl, But.refl _ _, hat⟩
  · obtain ⟨b, rfl, hne, _, _⟩ := hA 0 h0
    have h1 : ∀ i, i < n → w.cell? ⟨b, i * 2, none⟩ = some (.bool (many i)) ∧ w.cell? ⟨b, i * 2 + 1, none⟩ = some (.func (.func (fn i)) #[] (cp i)) := by
      intro i hi
      obtain ⟨b', hb', _, c1, c2⟩ := hA i hi
      injection hb' with hb'
      injection hb' with hb'
      subst hb'
      exact ⟨c1, c2⟩
    exact through n cap b many fn cp g at_ w (fun i hi => (h1 i hi).1) (fun i hi => (h1 i hi).2) hlen hne hat
end Go.Proofs.Ytinhlaiogkmkfaa.G
end
section
/- Match: the walk. -/
namespace Go.Proofs.Ytinhlaiogkmkfaa.G
open Go.RowKit
attribute [local simp, local go_sem] alloc_drewN setCell_drewN
set_option linter.unusedVariables false
set_option linter.unusedSimpArgs false
set_option maxRecDepth 100000
/-- What is known of a step's place. -/
theorem step_cells {w : World} {base : Nat} {A : Option Addr} {c : Nat} {l : List Stq} (h : IsSteps w base (.slice A l.length c) l) : ∀ i (hi : i < l.length), ∃ b, A = some ⟨b, 0, none⟩ ∧ base ≤ b ∧ b < w.heap.size ∧
    w.cell? ⟨b, i * 2, none⟩ = some (.bool (manyOf (l.map Stq.s) i)) ∧ w.cell? ⟨b, i * 2 + 1, none⟩ = some (.func (.func l[i].fn) #[] l[i].cp) := by
  intro i hi
  obtain ⟨ho, _⟩ := h
  rcases ho with ⟨hl, ⟨hv, h0⟩ | ⟨g, cap, cur, hv, hg, hh, hc, hm, hcs, ht⟩⟩
  · omega
  · injection hv with hA _ _
    have hcell : ∀ j u, (stqCells l)[j]? = some u → w.cell? ⟨g, j, none⟩ = some u := by
      intro j u hj
      rw [cell_of_row w g j cur _ _ hh, ← Array.getElem?_toList]
      rw [← ht] at hj
      rw [List.getElem?_take] at hj
      split at hj
      · exact hj
      · simp at hj
    have hq := stqCells_at l i l[i] (List.getElem?_eq_getElem hi)
    refine ⟨g, hA, hg, lt_of_block hh, ?_, hcell _ _ hq.2⟩
    rw [hcell _ _ hq.1]
    simp [manyOf, List.getElem?_map, List.getElem?_eq_getElem hi]
theorem matchRes_of {p s : ByteArray} {e : Int × Int} (h : checkRes p = e) (hne : e.2 ≠ 0) : matchRes p s = (false, e.2) := by
  unfold matchRes
  rw [h, if_neg hne]
def OuterAt (w1 : World) (L : List Stp) (s : ByteArray) (n : Nat) (gk : Nat) (v9 v10 v11 : Value) (wr : World) : Prop :=
  ∃ (k g1 g2 : Nat) (junk : Nat → Bool), gk = s.size - k ∧ k ≤ s.size ∧ v9 = .slice (some ⟨g1, 0, none⟩) (n + 1) (n + 1) ∧ v10 = .slice (some ⟨g2, 0, none⟩) (n + 1) (n + 1) ∧ v11 = .int .i64 k ∧
    g1 ≠ g2 ∧ w1.heap.size ≤ g1 ∧ w1.heap.size ≤ g2 ∧ wr.heap[g1]? = some (.cells (rowB (n + 1) (marks L s k)) 4 (0, 0)) ∧ wr.heap[g2]? = some (.cells (rowB (n + 1) junk) 4 (0, 0)) ∧ But No w1 wr
def InnerAt (w1 : World) (L : List Stp) (S : Nat → Bool) (c : Int) (n g1 g2 : Nat) (gk : Nat) (v45 : Value) (wr : World) : Prop :=
  ∃ k : Nat, gk = n - k ∧ k ≤ n ∧ v45 = .int .i64 k ∧ wr.heap[g1]? = some (.cells (rowB (n + 1) S) 4 (0, 0)) ∧ wr.heap[g2]? = some (.cells (rowB (n + 1) (nextTo L S c k)) 4 (0, 0)) ∧ But No w1 wr
set_option maxHeartbeats 8000000 in
theorem match0 (p s : ByteArray) (w : World) (hp : p.size ≤ 9223372036854775807) (hs : s.size ≤ 9223372036854775807) :
    Calls Try.prog 99 #[.string p, .string s] w fun e w' => e = .returned (.tuple #[.bool (matchRes p s).1, .int .i64 (matchRes p s).2]) ∧ But No w w' := by
  have hs2 : s.size ≤ 9223372036854775807 := by omega
  go_enter Try.func99, Try.ntmps99
  go_wp2_with fail
  refine (read0 p w hp).mono ?_
  rintro e w1 ⟨hb, h⟩
  rcases h with ⟨h1, rfl⟩ | ⟨h1, h2, rfl⟩ | ⟨h1, h2, v, l, rfl, hI, hl, hlen⟩
  · have E := Lib.hid (show matchRes p s = (false, 61) from matchRes_of (e := (0, 61)) (if_pos h1) (by decide))
    go_wp2_with fail
    go_ret2
    exact ⟨by rw [E.out]; rfl, hb⟩
  · have E := Lib.hid (show matchRes p s = (false, 60) from matchRes_of (e := ((gSteps p).1, 60)) ((if_neg (by omega)).trans (if_pos h2)) (by simp))
    go_wp2_with fail
    go_ret2
    exact ⟨by rw [E.out]; rfl, hb⟩
  · have E := Lib.hid (show matchRes p s = (marks (gSteps p).2 s s.size (gSteps p).2.length, 0) from if_pos (by rw [show checkRes p = (0, 0) from (if_neg (by omega)).trans (if_neg (by omega))]))
    have HL := Lib.hid hl
    have HLn := Lib.hid (show (gSteps p).2.length = l.length from by rw [← hl, List.length_map])
    clear hl h2
    obtain ⟨A0, c0, rfl⟩ := own_slice hI.1
    have hcase : (A0 = none ∧ l.length = 0) ∨ ∃ b, A0 = some ⟨b, 0, none⟩ := by
      rcases hI.1.2 with ⟨hv, h0⟩ | ⟨b, cap, cur, hv, _⟩
      · injection hv with hv _ _
        exact .inl ⟨hv, h0⟩
      · injection hv with hv _ _
        exact .inr ⟨b, hv⟩
    have hst := step_cells hI
    have ht : ∀ (w2 : World) (g : Nat) (f : Nat → Bool), But No w1 w2 → w1.heap.size ≤ g → w2.heap[g]? = some (.cells (rowB (l.length + 1) f) 4 (0, 0)) →
        Calls Try.prog 112 #[.slice A0 l.length c0, .slice (some ⟨g, 0, none⟩) (l.length + 1) (l.length + 1)] w2 fun e w' => e = .returned (.tuple #[]) ∧ But (One g) w2 w' ∧ w'.heap[g]? = some (.cells (rowB (l.length + 1) (thruTo (manyOf (l.map Stq.s)) l.length f)) 4 (0, 0)) := by
      intro w2 g f hb2 hg hc
      refine through_any l.length c0 A0 (manyOf (l.map Stq.s)) (fun i => if h : i < l.length then l[i].fn else 0) (fun i => if h : i < l.length then l[i].cp else #[]) g f w2 ?_ (by omega) hc
      intro i hi
      obtain ⟨b, q1, q2, q3, q4, q5⟩ := hst i hi
      exact ⟨b, q1, by omega, hb2.cell_some q4 (fun h => h), by simp only [dif_pos hi]; exact hb2.cell_some q5 (fun h => h)⟩
    have HT := Lib.hid ht
    clear ht
    rcases hcase with ⟨rfl, h0⟩ | ⟨b, rfl⟩
    · have H0 := Lib.hid h0
      clear h0 hst
      have hn : l.length ≤ 257 := by omega
      have hmk := run_makeB l.length (by omega)
      go_upto_region 4 with (fail)
      go_cut [9, 10] (fun v9 v10 wc => ∃ g1 g2, v9 = .slice (some ⟨g1, 0, none⟩) (l.length + 1) (l.length + 1) ∧ v10 = .slice (some ⟨g2, 0, none⟩) (l.length + 1) (l.length + 1) ∧ g1 ≠ g2 ∧ w1.heap.size ≤ g1 ∧ w1.heap.size ≤ g2 ∧
        wc.heap[g1]? = some (.cells (rowB (l.length + 1) none_) 4 (0, 0)) ∧ wc.heap[g2]? = some (.cells (rowB (l.length + 1) none_) 4 (0, 0)) ∧ But No w1 wc)
      case first =>
        go_region
        all_goals
          go_wp2
          go_meet
          case rel =>
            refine ⟨_, _, rfl, rfl, by omega, by omega, by omega, ?_, ?_, by repeat (first | exact But.refl _ _ | apply But.drewN | apply But.drew | apply But.alloc)⟩
            · first | exact heap_alloc2_old _ _ _ | exact heap_alloc2_new _ _ _
            · first | exact heap_alloc2_old _ _ _ | exact heap_alloc2_new _ _ _
      case rest =>
        obtain ⟨g1, g2, rfl, rfl, hne, hg1, hg2, hc1, hc2, hb1⟩ := hcut
        obtain ⟨wo, rfl⟩ : ∃ wo : World, wo = wc := ⟨_, rfl⟩
        have k0 := blkcell hc1 0 (by simp [rowB_size])
        have kf := blkfree hc1 0
        clear hmk
        go_wp2_with fail
        have hs1 := blkset hc1 0 (.bool true)
        rw [rowB_set] at hs1
        refine (HT.out (wo.setCell ⟨g1, 0, none⟩ (.bool true)) g1 _ (hb1.setCell (.inr hg1) _) hg1 hs1).mono ?_
        rintro e w2 ⟨rfl, hb2, hc1'⟩
        have hc2' := (hb2.block g2 (by simpa [World.setCell] using lt_of_block hc2) (fun e => hne e.symm)).trans (blkfar (p := ⟨g1, 0, none⟩) hc2 hne.symm (.bool true))
        have hb2' : But No w1 w2 := (hb1.setCell (p := ⟨g1, 0, none⟩) (.inr hg1) (.bool true)).trans_ hb2 (fun b hb e => by unfold One at e; omega)
        have hstart : (fun j => if j = 0 then true else none_ j) = (fun j => j == 0) := by
          funext j
          unfold none_
          cases j <;> simp
        rw [hstart] at hc1'
        clear hb2 hc1 hc2 hb1 k0 kf hs1 hstart
        go_wp2_with fail
        go_loopg [9, 10, 11] s.size (fun k v9 v10 v11 wr => OuterAt w1 (l.map Stq.s) s l.length k v9 v10 v11 wr)
        case atStart =>
          refine ⟨0, g1, g2, none_, rfl, Nat.zero_le _, rfl, rfl, rfl, hne, hg1, hg2, ?_, hc2', hb2'⟩
          rw [hc1']
          simp only [marks, start, List.length_map]
        case round =>
          clear hc1' hc2' hb2' hne hg1 hg2
          obtain ⟨k, g1, g2, junk, hgk, hk, rfl, rfl, rfl, hne, hg1, hg2, hc1, hc2, hb1⟩ := hrel
          have HGK := Lib.hid hgk
          clear hgk
          obtain ⟨wx, rfl⟩ : ∃ wx : World, wx = wr := ⟨_, rfl⟩
          by_cases hks : k < s.size
          · have hbt := bt_at s k hks
            have hcl := run_clearB wx g2 l.length (l.length + 1) junk hc2
            have hc1c : (wx.setRow g2 (rowB (l.length + 1) none_)).heap[g1]? = some (.cells (rowB (l.length + 1) (marks (l.map Stq.s) s k)) 4 (0, 0)) := (setRow_other _ _ _ _ hne).trans hc1
            have hc2c : (wx.setRow g2 (rowB (l.length + 1) none_)).heap[g2]? = some (.cells (rowB (l.length + 1) none_) 4 (0, 0)) := setRow_heap _ _ _ _ _ _ hc2
            have hb1c : But No w1 (wx.setRow g2 (rowB (l.length + 1) none_)) := hb1.setRow (.inr hg2) _
            go_wp2_with fail
            clear hcl
            generalize hS : marks (l.map Stq.s) s k = S at *
            have HS := Lib.hid hS
            clear hS
            go_loopg [45] l.length (fun kk v45 wr => InnerAt w1 (l.map Stq.s) S (bt s k) l.length g1 g2 kk v45 wr)
            case atStart => exact ⟨0, rfl, Nat.zero_le _, rfl, hc1c, hc2c, hb1c⟩
            case round =>
              clear hc1c hc2c hb1c hc1 hc2 hb1
              obtain ⟨j, hgj, hj, rfl, hc1, hc2, hb1⟩ := hrel
              have HGJ := Lib.hid hgj
              clear hgj
              by_cases hjl : j < l.length
              · exact absurd hjl (by rw [H0.out]; exact Nat.not_lt_zero _)
              · obtain rfl : j = l.length := by omega
                go_wp2_with fail
                refine (HT.out wr g2 _ hb1 hg2 hc2).mono ?_
                rintro e w3 ⟨rfl, hb3, hc3⟩
                have hc1' := (hb3.block g1 (lt_of_block hc1) (fun e => hne e)).trans hc1
                have hb3' : But No w1 w3 := hb1.trans_ hb3 (fun b hb e => by unfold One at e; omega)
                clear hc1 hc2 hb1 hb3
                go_wp2_with fail
                go_roundg (s.size - (k + 1))
                case measure => rw [HGK.out]; omega
                case rel =>
                  refine ⟨k + 1, g2, g1, S, rfl, by omega, rfl, rfl, by go_num, hne.symm, hg2, hg1, ?_, hc1', hb3'⟩
                  rw [hc3]
                  simp only [marks, stepOn, List.length_map, HS.out]
          · obtain rfl : k = s.size := by omega
            have hcn := blkcell hc1 l.length (by rw [rowB_size]; omega)
            rw [rowB_get] at hcn
            go_wp2_with fail
            go_ret2
            refine ⟨?_, hb.trans hb1⟩
            rw [E.out, ← HL.out, List.length_map]
            rfl
    · have hst0 : ∀ w2, But No w1 w2 → ∀ i (hi : i < l.length), b < w1.heap.size ∧ w2.cell? ⟨b, i * 2, none⟩ = some (.bool (manyOf (l.map Stq.s) i)) ∧ w2.cell? ⟨b, i * 2 + 1, none⟩ = some (.func (.func l[i].fn) #[] l[i].cp) := by
        intro w2 hb2 i hi
        obtain ⟨b', q1, q2, q3, q4, q5⟩ := hst i hi
        injection q1 with q1
        injection q1 with q1
        subst q1
        exact ⟨q3, hb2.cell_some q4 (fun h => h), hb2.cell_some q5 (fun h => h)⟩
      have HST := Lib.hid hst0
      clear hst hst0
      have hn : l.length ≤ 257 := by omega
      have hmk := run_makeB l.length (by omega)
      go_upto_region 4 with (fail)
      go_cut [9, 10] (fun v9 v10 wc => ∃ g1 g2, v9 = .slice (some ⟨g1, 0, none⟩) (l.length + 1) (l.length + 1) ∧ v10 = .slice (some ⟨g2, 0, none⟩) (l.length + 1) (l.length + 1) ∧ g1 ≠ g2 ∧ w1.heap.size ≤ g1 ∧ w1.heap.size ≤ g2 ∧
        wc.heap[g1]? = some (.cells (rowB (l.length + 1) none_) 4 (0, 0)) ∧ wc.heap[g2]? = some (.cells (rowB (l.length + 1) none_) 4 (0, 0)) ∧ But No w1 wc)
      case first =>
        go_region
        all_goals
          go_wp2
          go_meet
          case rel =>
            refine ⟨_, _, rfl, rfl, by omega, by omega, by omega, ?_, ?_, by repeat (first | exact But.refl _ _ | apply But.drewN | apply But.drew | apply But.alloc)⟩
            · first | exact heap_alloc2_old _ _ _ | exact heap_alloc2_new _ _ _
            · first | exact heap_alloc2_old _ _ _ | exact heap_alloc2_new _ _ _
      case rest =>
        obtain ⟨g1, g2, rfl, rfl, hne, hg1, hg2, hc1, hc2, hb1⟩ := hcut
        obtain ⟨wo, rfl⟩ : ∃ wo : World, wo = wc := ⟨_, rfl⟩
        have k0 := blkcell hc1 0 (by simp [rowB_size])
        have kf := blkfree hc1 0
        clear hmk
        go_wp2_with fail
        have hs1 := blkset hc1 0 (.bool true)
        rw [rowB_set] at hs1
        refine (HT.out (wo.setCell ⟨g1, 0, none⟩ (.bool true)) g1 _ (hb1.setCell (.inr hg1) _) hg1 hs1).mono ?_
        rintro e w2 ⟨rfl, hb2, hc1'⟩
        have hc2' := (hb2.block g2 (by simpa [World.setCell] using lt_of_block hc2) (fun e => hne e.symm)).trans (blkfar (p := ⟨g1, 0, none⟩) hc2 hne.symm (.bool true))
        have hb2' : But No w1 w2 := (hb1.setCell (p := ⟨g1, 0, none⟩) (.inr hg1) (.bool true)).trans_ hb2 (fun b hb e => by unfold One at e; omega)
        have hstart : (fun j => if j = 0 then true else none_ j) = (fun j => j == 0) := by
          funext j
          unfold none_
          cases j <;> simp
        rw [hstart] at hc1'
        clear hb2 hc1 hc2 hb1 k0 kf hs1 hstart
        go_wp2_with fail
        go_loopg [9, 10, 11] s.size (fun k v9 v10 v11 wr => OuterAt w1 (l.map Stq.s) s l.length k v9 v10 v11 wr)
        case atStart =>
          refine ⟨0, g1, g2, none_, rfl, Nat.zero_le _, rfl, rfl, rfl, hne, hg1, hg2, ?_, hc2', hb2'⟩
          rw [hc1']
          simp only [marks, start, List.length_map]
        case round =>
          clear hc1' hc2' hb2' hne hg1 hg2
          obtain ⟨k, g1, g2, junk, hgk, hk, rfl, rfl, rfl, hne, hg1, hg2, hc1, hc2, hb1⟩ := hrel
          have HGK := Lib.hid hgk
          clear hgk
          obtain ⟨wx, rfl⟩ : ∃ wx : World, wx = wr := ⟨_, rfl⟩
          by_cases hks : k < s.size
          · have hbt := bt_at s k hks
            have hcl := run_clearB wx g2 l.length (l.length + 1) junk hc2
            have hc1c : (wx.setRow g2 (rowB (l.length + 1) none_)).heap[g1]? = some (.cells (rowB (l.length + 1) (marks (l.map Stq.s) s k)) 4 (0, 0)) := (setRow_other _ _ _ _ hne).trans hc1
            have hc2c : (wx.setRow g2 (rowB (l.length + 1) none_)).heap[g2]? = some (.cells (rowB (l.length + 1) none_) 4 (0, 0)) := setRow_heap _ _ _ _ _ _ hc2
            have hb1c : But No w1 (wx.setRow g2 (rowB (l.length + 1) none_)) := hb1.setRow (.inr hg2) _
            go_wp2_with fail
            clear hcl
            generalize hS : marks (l.map Stq.s) s k = S at *
            have HS := Lib.hid hS
            clear hS
            go_loopg [45] l.length (fun kk v45 wr => InnerAt w1 (l.map Stq.s) S (bt s k) l.length g1 g2 kk v45 wr)
            case atStart => exact ⟨0, rfl, Nat.zero_le _, rfl, hc1c, hc2c, hb1c⟩
            case round =>
              clear hc1c hc2c hb1c hc1 hc2 hb1
              obtain ⟨j, hgj, hj, rfl, hc1, hc2, hb1⟩ := hrel
              have HGJ := Lib.hid hgj
              clear hgj
              by_cases hjl : j < l.length
              · skip
                obtain ⟨hbl, m1, m2⟩ := HST.out wr hb1 j hjl
                have hfit := hI.2 l[j] (List.getElem_mem hjl)
                have hcj := blkcell hc1 j (by rw [rowB_size]; omega)
                rw [rowB_get] at hcj
                have hqj : (l.map Stq.s)[j]? = some l[j].s := by rw [List.getElem?_map, List.getElem?_eq_getElem hjl]; rfl
                have hmj : manyOf (l.map Stq.s) j = l[j].s.many := by simp only [manyOf, hqj]
                rw [hmj] at m1
                obtain ⟨fn', cp', heq, henter, hcall⟩ := hfit
                injection heq with e1 _ e2
                injection e1 with e1
                rw [e1, e2] at m2
                have HN : Hid (∀ x, nextTo (l.map Stq.s) S (bt s k) (j + 1) x = if S j = true ∧ l[j].s.fits (bt s k) = true ∧ x = (if l[j].s.many then j else j + 1) then true else nextTo (l.map Stq.s) S (bt s k) j x) := by
                  intro x
                  simp only [nextTo, hqj]
                generalize hmm : l[j].s.many = mj at *
                generalize hff : l[j].s.fits = φ at *
                have HC := Lib.hid hcall
                clear hcall e1 e2 hqj hmj hmm hff
                have hgx := lt_of_block hc1
                have hgy := lt_of_block hc2
                have hrg := bt_range s k
                cases hSj : S j with
                | false =>
                  rw [hSj] at hcj
                  have HN2 : Hid (nextTo (l.map Stq.s) S (bt s k) (j + 1) = nextTo (l.map Stq.s) S (bt s k) j) := by
                    funext x
                    rw [HN.out x, if_neg (by rw [hSj]; simp)]
                  clear hSj
                  go_wp2_with fail
                  go_quiet (fail)
                  go_wp2_with fail
                  go_roundg (l.length - (j + 1))
                  case measure => rw [HGJ.out]; omega
                  case rel =>
                    refine ⟨j + 1, rfl, by omega, by go_num, blkold hc1 _, ?_, (hb1.alloc _).drewN _⟩
                    rw [HN2.out]
                    exact blkold hc2 _
                | true =>
                  rw [hSj] at hcj
                  have hW1 : (wr.alloc (.cells #[.bool mj, .func (.func fn') #[] cp'] 151)).cell? ⟨g1, j, none⟩ = some (.bool true) := (World.cell?_alloc_lt _ _ _ hgx).trans hcj
                  have hW2 : (wr.alloc (.cells #[.bool mj, .func (.func fn') #[] cp'] 151)).cell? ⟨wr.heap.size, 1, none⟩ = some (.func (.func fn') #[] cp') := by simp
                  have hW3 : (wr.alloc (.cells #[.bool mj, .func (.func fn') #[] cp'] 151)).cell? ⟨wr.heap.size, 0, none⟩ = some (.bool mj) := by simp
                  have hWb : But (Sty w1) w1 (wr.alloc (.cells #[.bool mj, .func (.func fn') #[] cp'] 151)) := (hb1.alloc _).mono (fun _ _ h => h.elim)
                  have hWc1 := blkold hc1 (.cells #[.bool mj, .func (.func fn') #[] cp'] 151)
                  have hWc2 := blkold hc2 (.cells #[.bool mj, .func (.func fn') #[] cp'] 151)
                  have hcd := HC.out (wr.alloc (.cells #[.bool mj, .func (.func fn') #[] cp'] 151)).drew hWb.drew (bt s k) hrg.1 hrg.2
                  have hji : (j : Int) < (l.length : Int) + 1 := by omega
                  have hki : (k : Int) < (s.size : Int) := by omega
                  cases hφ : φ (bt s k) with
                  | false =>
                    rw [hφ] at hcd
                    have HCD := Lib.hid hcd
                    have HN2 : Hid (nextTo (l.map Stq.s) S (bt s k) (j + 1) = nextTo (l.map Stq.s) S (bt s k) j) := by
                      funext x
                      rw [HN.out x, if_neg (by rw [hφ]; simp)]
                    clear hcd hφ hSj
                    go_wp2_with fail
                    go_region_held3 (fun w' => w'.cell? ⟨g1, j, none⟩ = some (.bool true) ∧ w'.cell? ⟨wr.heap.size, 1, none⟩ = some (.func (.func fn') #[] cp')) (first | go_keep | exact ⟨hb4.cell_some hW1 (fun h => h), hb4.cell_some hW2 (fun h => h)⟩) (first | (refine HCD.out.mono ?_; rintro e w4 ⟨rfl, hb4⟩))
                    go_wp2_with fail
                    go_roundg (l.length - (j + 1))
                    case measure => rw [HGJ.out]; omega
                    case rel =>
                      refine ⟨j + 1, rfl, by omega, by go_num, (hb4.block g1 (lt_of_block hWc1) (fun h => h)).trans hWc1, ?_, ((hb1.alloc _).drew).trans hb4⟩
                      rw [HN2.out]
                      exact (hb4.block g2 (lt_of_block hWc2) (fun h => h)).trans hWc2
                  | true =>
                    rw [hφ] at hcd
                    have HCD := Lib.hid hcd
                    have HN2 : Hid (∀ x, nextTo (l.map Stq.s) S (bt s k) (j + 1) x = if x = (if mj then j else j + 1) then true else nextTo (l.map Stq.s) S (bt s k) j x) := by
                      intro x
                      rw [HN.out x]
                      simp only [hSj, hφ, true_and]
                    clear hcd hφ hSj
                    cases mj with
                    | false =>
                      go_wp2_with fail
                      go_region_held3 (fun w' => w'.cell? ⟨g1, j, none⟩ = some (.bool true) ∧ w'.cell? ⟨wr.heap.size, 1, none⟩ = some (.func (.func fn') #[] cp')) (first | go_keep | exact ⟨hb4.cell_some hW1 (fun h => h), hb4.cell_some hW2 (fun h => h)⟩) (first | (refine HCD.out.mono ?_; rintro e w4 ⟨rfl, hb4⟩))
                      have u1 := (hb4.block g1 (lt_of_block hWc1) (fun h => h)).trans hWc1
                      have u2 := (hb4.block g2 (lt_of_block hWc2) (fun h => h)).trans hWc2
                      have u3 := hb4.cell_some hW3 (fun h => h)
                      have u4 := blkcell u2 (j + 1) (by rw [rowB_size]; omega)
                      have u5 := blkfree u2 (j + 1)
                      go_wp2_with fail
                      go_roundg (l.length - (j + 1))
                      case measure => rw [HGJ.out]; omega
                      case rel =>
                        refine ⟨j + 1, rfl, by omega, by go_num, blkfar u1 hne _, ?_, But.setCell (((hb1.alloc _).drew).trans hb4) (.inr hg2) _⟩
                        rw [blkset u2 (j + 1) (.bool true), rowB_set]
                        congr 3
                        funext x
                        rw [HN2.out x]
                        rfl
                    | true =>
                      go_wp2_with fail
                      go_region_held3 (fun w' => w'.cell? ⟨g1, j, none⟩ = some (.bool true) ∧ w'.cell? ⟨wr.heap.size, 1, none⟩ = some (.func (.func fn') #[] cp')) (first | go_keep | exact ⟨hb4.cell_some hW1 (fun h => h), hb4.cell_some hW2 (fun h => h)⟩) (first | (refine HCD.out.mono ?_; rintro e w4 ⟨rfl, hb4⟩))
                      have u1 := (hb4.block g1 (lt_of_block hWc1) (fun h => h)).trans hWc1
                      have u2 := (hb4.block g2 (lt_of_block hWc2) (fun h => h)).trans hWc2
                      have u3 := hb4.cell_some hW3 (fun h => h)
                      have u4 := blkcell u2 j (by rw [rowB_size]; omega)
                      have u5 := blkfree u2 j
                      go_wp2_with fail
                      go_roundg (l.length - (j + 1))
                      case measure => rw [HGJ.out]; omega
                      case rel =>
                        refine ⟨j + 1, rfl, by omega, by go_num, blkfar u1 hne _, ?_, But.setCell (((hb1.alloc _).drew).trans hb4) (.inr hg2) _⟩
                        rw [blkset u2 j (.bool true), rowB_set]
                        congr 3
                        funext x
                        rw [HN2.out x]
                        rfl
              · obtain rfl : j = l.length := by omega
                go_wp2_with fail
                refine (HT.out wr g2 _ hb1 hg2 hc2).mono ?_
                rintro e w3 ⟨rfl, hb3, hc3⟩
                have hc1' := (hb3.block g1 (lt_of_block hc1) (fun e => hne e)).trans hc1
                have hb3' : But No w1 w3 := hb1.trans_ hb3 (fun b hb e => by unfold One at e; omega)
                clear hc1 hc2 hb1 hb3
                go_wp2_with fail
                go_roundg (s.size - (k + 1))
                case measure => rw [HGK.out]; omega
                case rel =>
                  refine ⟨k + 1, g2, g1, S, rfl, by omega, rfl, rfl, by go_num, hne.symm, hg2, hg1, ?_, hc1', hb3'⟩
                  rw [hc3]
                  simp only [marks, stepOn, List.length_map, HS.out]
          · obtain rfl : k = s.size := by omega
            have hcn := blkcell hc1 l.length (by rw [rowB_size]; omega)
            rw [rowB_get] at hcn
            go_wp2_with fail
            go_ret2
            refine ⟨?_, hb.trans hb1⟩
            rw [E.out, ← HL.out, List.length_map]
            rfl
end Go.Proofs.Ytinhlaiogkmkfaa.G
end
section
/- Names of variables: the walks of scalar's and expr's tests. -/
namespace Go.Proofs.Ytinhlaiogkmkfaa.G
open Go.RowKit
attribute [local simp, local go_sem] alloc_drewN setCell_drewN
set_option linter.unusedVariables false
set_option linter.unusedSimpArgs false
def letterB (c : Int) : Bool := (decide (97 ≤ c) && decide (c ≤ 122)) || (decide (65 ≤ c) && decide (c ≤ 90)) || (decide (48 ≤ c) && decide (c ≤ 57)) || c == 95
set_option maxHeartbeats 1000000 in
theorem letter0 (c : Int) (h0 : 0 ≤ c) (h9 : c ≤ 255) (w : World) : Calls Try.prog 101 #[.int .u8 c] w fun e w' => e = .returned (.bool (letterB c)) ∧ w = w' := by
  have hc : (0 ≤ c ∧ c ≤ 47) ∨ (48 ≤ c ∧ c ≤ 57) ∨ (58 ≤ c ∧ c ≤ 64) ∨ (65 ≤ c ∧ c ≤ 90) ∨ (91 ≤ c ∧ c ≤ 94) ∨ (95 ≤ c ∧ c ≤ 95) ∨ (96 ≤ c ∧ c ≤ 96) ∨ (97 ≤ c ∧ c ≤ 122) ∨ (123 ≤ c ∧ c ≤ 255) := by omega
  rcases hc with ⟨h1, h2⟩ | ⟨h1, h2⟩ | ⟨h1, h2⟩ | ⟨h1, h2⟩ | ⟨h1, h2⟩ | ⟨h1, h2⟩ | ⟨h1, h2⟩ | ⟨h1, h2⟩ | ⟨h1, h2⟩
  · have E := Lib.hid (show letterB c = false from by unfold letterB; simp; omega)
    have : decide (97 ≤ c) = false := by simp; omega
    have : ¬ (97 ≤ c) := by omega
    have : decide (c ≤ 122) = true := by simp; omega
    have : c ≤ 122 := by omega
    have : decide (65 ≤ c) = false := by simp; omega
    have : ¬ (65 ≤ c) := by omega
    have : decide (c ≤ 90) = true := by simp; omega
    have : c ≤ 90 := by omega
    have : decide (48 ≤ c) = false := by simp; omega
    have : ¬ (48 ≤ c) := by omega
    have : decide (c ≤ 57) = true := by simp; omega
    have : c ≤ 57 := by omega
    have : (c == 95) = false := by simp; omega
    go_enter Try.func101, Try.ntmps101
    go_wp2
    go_ret
    exact ⟨by rw [E.out]; rfl, rfl⟩
  · have E := Lib.hid (show letterB c = true from by unfold letterB; simp; omega)
    have : decide (97 ≤ c) = false := by simp; omega
    have : ¬ (97 ≤ c) := by omega
    have : decide (c ≤ 122) = true := by simp; omega
    have : c ≤ 122 := by omega
    have : decide (65 ≤ c) = false := by simp; omega
    have : ¬ (65 ≤ c) := by omega
    have : decide (c ≤ 90) = true := by simp; omega
    have : c ≤ 90 := by omega
    have : decide (48 ≤ c) = true := by simp; omega
    have : 48 ≤ c := by omega
    have : decide (c ≤ 57) = true := by simp; omega
    have : c ≤ 57 := by omega
    have : (c == 95) = false := by simp; omega
    go_enter Try.func101, Try.ntmps101
    go_wp2
    go_ret
    exact ⟨by rw [E.out]; rfl, rfl⟩
  · have E := Lib.hid (show letterB c = false from by unfold letterB; simp; omega)
    have : decide (97 ≤ c) = false := by simp; omega
    have : ¬ (97 ≤ c) := by omega
    have : decide (c ≤ 122) = true := by simp; omega
    have : c ≤ 122 := by omega
    have : decide (65 ≤ c) = false := by simp; omega
    have : ¬ (65 ≤ c) := by omega
    have : decide (c ≤ 90) = true := by simp; omega
    have : c ≤ 90 := by omega
    have : decide (48 ≤ c) = true := by simp; omega
    have : 48 ≤ c := by omega
    have : decide (c ≤ 57) = false := by simp; omega
    have : ¬ (c ≤ 57) := by omega
    have : (c == 95) = false := by simp; omega
    go_enter Try.func101, Try.ntmps101
    go_wp2
    go_ret
    exact ⟨by rw [E.out]; rfl, rfl⟩
  · have E := Lib.hid (show letterB c = true from by unfold letterB; simp; omega)
    have : decide (97 ≤ c) = false := by simp; omega
    have : ¬ (97 ≤ c) := by omega
    have : decide (c ≤ 122) = true := by simp; omega
    have : c ≤ 122 := by omega
    have : decide (65 ≤ c) = true := by simp; omega
    have : 65 ≤ c := by omega
    have : decide (c ≤ 90) = true := by simp; omega
    have : c ≤ 90 := by omega
    have : decide (48 ≤ c) = true := by simp; omega
    have : 48 ≤ c := by omega
    have : decide (c ≤ 57) = false := by simp; omega
    have : ¬ (c ≤ 57) := by omega
    have : (c == 95) = false := by simp; omega
    go_enter Try.func101, Try.ntmps101
    go_wp2
    go_ret
    exact ⟨by rw [E.out]; rfl, rfl⟩
  · have E := Lib.hid (show letterB c = false from by unfold letterB; simp; omega)
    have : decide (97 ≤ c) = false := by simp; omega
    have : ¬ (97 ≤ c) := by omega
    have : decide (c ≤ 122) = true := by simp; omega
    have : c ≤ 122 := by omega
    have : decide (65 ≤ c) = true := by simp; omega
    have : 65 ≤ c := by omega
    have : decide (c ≤ 90) = false := by simp; omega
    have : ¬ (c ≤ 90) := by omega
    have : decide (48 ≤ c) = true := by simp; omega
    have : 48 ≤ c := by omega
    have : decide (c ≤ 57) = false := by simp; omega
    have : ¬ (c ≤ 57) := by omega
    have : (c == 95) = false := by simp; omega
    go_enter Try.func101, Try.ntmps101
    go_wp2
    go_ret
    exact ⟨by rw [E.out]; rfl, rfl⟩
  · have E := Lib.hid (show letterB c = true from by unfold letterB; simp; omega)
    have : decide (97 ≤ c) = false := by simp; omega
    have : ¬ (97 ≤ c) := by omega
    have : decide (c ≤ 122) = true := by simp; omega
    have : c ≤ 122 := by omega
    have : decide (65 ≤ c) = true := by simp; omega
    have : 65 ≤ c := by omega
    have : decide (c ≤ 90) = false := by simp; omega
    have : ¬ (c ≤ 90) := by omega
    have : decide (48 ≤ c) = true := by simp; omega
    have : 48 ≤ c := by omega
    have : decide (c ≤ 57) = false := by simp; omega
    have : ¬ (c ≤ 57) := by omega
    have : (c == 95) = true := by simp; omega
    go_enter Try.func101, Try.ntmps101
    go_wp2
    go_ret
    exact ⟨by rw [E.out]; rfl, rfl⟩
  · have E := Lib.hid (show letterB c = false from by unfold letterB; simp; omega)
    have : decide (97 ≤ c) = false := by simp; omega
    have : ¬ (97 ≤ c) := by omega
    have : decide (c ≤ 122) = true := by simp; omega
    have : c ≤ 122 := by omega
    have : decide (65 ≤ c) = true := by simp; omega
    have : 65 ≤ c := by omega
    have : decide (c ≤ 90) = false := by simp; omega
    have : ¬ (c ≤ 90) := by omega
    have : decide (48 ≤ c) = true := by simp; omega
    have : 48 ≤ c := by omega
    have : decide (c ≤ 57) = false := by simp; omega
    have : ¬ (c ≤ 57) := by omega
    have : (c == 95) = false := by simp; omega
    go_enter Try.func101, Try.ntmps101
    go_wp2
    go_ret
    exact ⟨by rw [E.out]; rfl, rfl⟩
  · have E := Lib.hid (show letterB c = true from by unfold letterB; simp; omega)
    have : decide (97 ≤ c) = true := by simp; omega
    have : 97 ≤ c := by omega
    have : decide (c ≤ 122) = true := by simp; omega
    have : c ≤ 122 := by omega
    have : decide (65 ≤ c) = true := by simp; omega
    have : 65 ≤ c := by omega
    have : decide (c ≤ 90) = false := by simp; omega
    have : ¬ (c ≤ 90) := by omega
    have : decide (48 ≤ c) = true := by simp; omega
    have : 48 ≤ c := by omega
    have : decide (c ≤ 57) = false := by simp; omega
    have : ¬ (c ≤ 57) := by omega
    have : (c == 95) = false := by simp; omega
    go_enter Try.func101, Try.ntmps101
    go_wp2
    go_ret
    exact ⟨by rw [E.out]; rfl, rfl⟩
  · have E := Lib.hid (show letterB c = false from by unfold letterB; simp; omega)
    have : decide (97 ≤ c) = true := by simp; omega
    have : 97 ≤ c := by omega
    have : decide (c ≤ 122) = false := by simp; omega
    have : ¬ (c ≤ 122) := by omega
    have : decide (65 ≤ c) = true := by simp; omega
    have : 65 ≤ c := by omega
    have : decide (c ≤ 90) = false := by simp; omega
    have : ¬ (c ≤ 90) := by omega
    have : decide (48 ≤ c) = true := by simp; omega
    have : 48 ≤ c := by omega
    have : decide (c ≤ 57) = false := by simp; omega
    have : ¬ (c ≤ 57) := by omega
    have : (c == 95) = false := by simp; omega
    go_enter Try.func101, Try.ntmps101
    go_wp2
    go_ret
    exact ⟨by rw [E.out]; rfl, rfl⟩
def letters (s : ByteArray) (k : Nat) : Bool := (List.range k).all fun i => letterB (bt s i)
theorem letters_zero (s : ByteArray) : letters s 0 = true := rfl
theorem letters_succ (s : ByteArray) (k : Nat) : letters s (k + 1) = (letters s k && letterB (bt s k)) := by simp [letters, List.range_succ]
def madeOk (s : ByteArray) : Bool := decide (1 ≤ s.size) && decide (s.size ≤ 64) && letters s s.size
theorem letters_no {s : ByteArray} {k : Nat} (hk : k < s.size) (h : letterB (bt s k) = false) : letters s s.size = false := by
  unfold letters
  rw [List.all_eq_false]
  exact ⟨k, List.mem_range.2 hk, by simp [h]⟩
theorem size_ne (s : ByteArray) (h : 0 < s.size) : s.toList.isEmpty = false := by
  have := ByteArray.toList_eq s
  cases hs : s.toList with
  | nil =>
    rw [hs] at this
    have h2 : s.data.toList.length = 0 := by rw [← this]; rfl
    rw [Array.length_toList] at h2
    have h3 : s.size = s.data.size := rfl
    omega
  | cons a l => rfl
theorem madeOk_no {s : ByteArray} (h : s.size = 0 ∨ 64 < s.size ∨ letters s s.size = false) : madeOk s = false := by
  unfold madeOk
  rcases h with h | h | h
  · simp [h]
  · have : ¬ s.size ≤ 64 := by omega
    simp [this]
  · simp [h]
set_option maxHeartbeats 1000000 in
theorem made0 (s : ByteArray) (w : World) (hs : s.size ≤ 9223372036854775807) : Calls Try.prog 100 #[.string s, .func (.func 101) #[] #[]] w fun e w' => e = .returned (.bool (madeOk s)) ∧ w = w' := by
  have hs2 : s.size ≤ 9223372036854775807 := by omega
  by_cases h0 : s.size = 0
  · have E := Lib.hid (madeOk_no (.inl h0))
    obtain rfl : s = ByteArray.empty := by
      apply ByteArray.ext
      exact Array.eq_empty_of_size_eq_zero (by simpa using h0)
    clear h0 hs hs2
    go_enter Try.func100, Try.ntmps100
    go_wp2
    go_ret
    exact ⟨by rw [E.out]; rfl, rfl⟩
  · have he := size_ne s (by omega)
    by_cases h1 : 64 < s.size
    · have E := Lib.hid (madeOk_no (.inr (.inl h1)))
      have h1' : (64 : Int) < (s.size : Int) := by omega
      have hd : decide ((64 : Int) < (s.size : Int)) = true := by simp; omega
      go_enter Try.func100, Try.ntmps100
      go_wp2
      go_ret
      exact ⟨by rw [E.out]; rfl, rfl⟩
    · have h1' : ¬ (64 : Int) < (s.size : Int) := by omega
      have hd : decide ((64 : Int) < (s.size : Int)) = false := by simp; omega
      go_enter Try.func100, Try.ntmps100
      go_wp2_with fail
      go_loopg [5] s.size (fun g v5 wr => ∃ k : Nat, g = s.size - k ∧ k ≤ s.size ∧ v5 = .int .i64 (k : Int) ∧ w = wr ∧ letters s k = true)
      case atStart => exact ⟨0, rfl, Nat.zero_le _, rfl, rfl, letters_zero s⟩
      case round =>
        obtain ⟨k, hg, hk, rfl, rfl, hl⟩ := hrel
        have HG := Lib.hid hg
        have HL := Lib.hid hl
        clear hg hl
        by_cases hlt : k < s.size
        · have hbt := bt_at s k hlt
          have hr := bt_range s k
          obtain ⟨b, hb⟩ : ∃ b, letterB (bt s k) = b := ⟨_, rfl⟩
          have hlet := letter0 (bt s k) hr.1 hr.2 w
          rw [hb] at hlet
          have HLet := Lib.hid hlet
          clear hlet
          cases b with
          | false =>
            have E := Lib.hid (madeOk_no (.inr (.inr (letters_no hlt hb))))
            clear hb
            go_wp2_with (go_at_call 101; refine HLet.out.mono ?_; rintro e w1 ⟨rfl, rfl⟩)
            go_ret
            exact ⟨by rw [E.out]; rfl, rfl⟩
          | true =>
            have E := Lib.hid (show letters s (k + 1) = true from by rw [letters_succ, HL.out, hb]; rfl)
            clear hb
            go_wp2_with (go_at_call 101; refine HLet.out.mono ?_; rintro e w1 ⟨rfl, rfl⟩)
            go_roundg (s.size - (k + 1))
            case measure => have := HG.out; omega
            case rel => exact ⟨k + 1, rfl, by omega, by go_num, rfl, E.out⟩
        · have E := Lib.hid (show madeOk s = true from by
            unfold madeOk
            have hkk : k = s.size := by omega
            rw [← hkk, HL.out]
            simp
            omega)
          go_wp2_with fail
          go_ret
          exact ⟨by rw [E.out]; rfl, rfl⟩
def varNameB (s : ByteArray) : Bool := madeOk s && (decide (bt s 0 < 48) || decide (57 < bt s 0))
theorem madeOk_size {s : ByteArray} (h : madeOk s = true) : 1 ≤ s.size ∧ s.size ≤ 64 := by
  unfold madeOk at h
  simp at h
  omega
set_option maxHeartbeats 1000000 in
theorem varName0 (s : ByteArray) (w : World) (hs : s.size ≤ 9223372036854775807) : Calls Try.prog 82 #[.string s] w fun e w' => e = .returned (.bool (varNameB s)) ∧ w = w' := by
  have hs2 : s.size ≤ 9223372036854775807 := by omega
  have hm := made0 s w hs
  cases hb : madeOk s with
  | false =>
    rw [hb] at hm
    have HM := Lib.hid hm
    have E := Lib.hid (show varNameB s = false from by unfold varNameB; rw [hb]; rfl)
    clear hm hb
    go_enter Try.func82, Try.ntmps82
    go_wp2_with (go_at_call 100; refine HM.out.mono ?_; rintro e w1 ⟨rfl, rfl⟩)
    go_ret
    exact ⟨by rw [E.out]; rfl, rfl⟩
  | true =>
    have hsz := madeOk_size hb
    have hbt := bt_at s 0 (by omega)
    have hr := bt_range s 0
    have hpos : 0 < s.size := by omega
    rw [hb] at hm
    have HM := Lib.hid hm
    have E := Lib.hid (show varNameB s = (decide (bt s 0 < 48) || decide (57 < bt s 0)) from by unfold varNameB; rw [hb]; rfl)
    clear hm hb
    generalize bt s 0 = c at *
    by_cases h1 : c < 48
    · have d1 : decide (c < 48) = true := by simp; omega
      have E2 := Lib.hid (show varNameB s = true from by rw [E.out, d1]; rfl)
      go_enter Try.func82, Try.ntmps82
      go_wp2_with (go_at_call 100; refine HM.out.mono ?_; rintro e w1 ⟨rfl, rfl⟩)
      go_ret
      exact ⟨by rw [E2.out]; rfl, rfl⟩
    · have d1 : decide (c < 48) = false := by simp; omega
      have E2 := Lib.hid (show varNameB s = decide (57 < c) from by rw [E.out, d1]; rfl)
      go_enter Try.func82, Try.ntmps82
      go_wp2_with (go_at_call 100; refine HM.out.mono ?_; rintro e w1 ⟨rfl, rfl⟩)
      go_ret
      exact ⟨by rw [E2.out]; rfl, rfl⟩
/-- The words that are no variables. -/
def reserved (s : ByteArray) : Bool := s.toList == [111, 114] || s.toList == [97, 110, 100] || s.toList == [110, 111, 116] || s.toList == [116, 114, 117, 101] || s.toList == [102, 97, 108, 115, 101] || s.toList == [100, 101, 102, 105, 110, 101, 100]
def variableB (s : ByteArray) : Bool := !reserved s && varNameB s
set_option maxHeartbeats 1000000 in
theorem variable0 (s : ByteArray) (w : World) (hs : s.size ≤ 9223372036854775807) : Calls Try.prog 64 #[.string s] w fun e w' => e = .returned (.bool (variableB s)) ∧ w = w' := by
  have HM := Lib.hid (varName0 s w hs)
  have HR : Hid (reserved s = (s.toList == [111, 114] || s.toList == [97, 110, 100] || s.toList == [110, 111, 116] || s.toList == [116, 114, 117, 101] || s.toList == [102, 97, 108, 115, 101] || s.toList == [100, 101, 102, 105, 110, 101, 100])) := Lib.hid rfl
  have HV := Lib.hid (show variableB s = (!reserved s && varNameB s) from rfl)
  go_enter Try.func64, Try.ntmps64
  go_wp2_with (go_at_call 82; refine HM.out.mono ?_; rintro e w1 ⟨rfl, rfl⟩)
  all_goals
    go_ret
    refine ⟨?_, rfl⟩
    rw [HV.out, HR.out]
    simp_all
end Go.Proofs.Ytinhlaiogkmkfaa.G
end
section
/- Rows of the call's own, of any kind of element that is laid in cells: generic words and laws. -/
namespace Go.Proofs.Ytinhlaiogkmkfaa.G
open Go.RowKit
set_option linter.unusedVariables false
set_option linter.unusedSimpArgs false
/-- A kind of element: type T, slices of it Ts, its cells. -/
structure El (P : Program) (T Ts : TypeId) (α : Type) where
  enc : α → List Value
  sz : Nat
  wd : Nat
  zero : Value
  hpos : 0 < sz
  henc : ∀ x, (enc x).length = sz
  hone : ∀ x, ∀ u ∈ enc x, u.oneCell' = true
  hi : (P.info? T).map (fun i => (i.zero, i.size, i.bytes)) = some (some zero, sz, wd)
  hzs : zero.cells.size = sz
  hu : P.underlying Ts = some (.slice T)
theorem info_get {P : Program} {T : TypeId} {z : Value} {sz wd : Nat} (h : (P.info? T).map (fun i => (i.zero, i.size, i.bytes)) = some (some z, sz, wd)) : ∃ i, P.info? T = some i ∧ i.zero = some z ∧ i.size = sz ∧ i.bytes = wd := by
  cases hq : P.info? T with
  | none => simp [hq] at h
  | some i =>
    simp only [hq, Option.map_some, Option.some.injEq, Prod.mk.injEq] at h
    exact ⟨i, rfl, h.1, h.2.1, h.2.2⟩
theorem addr_add (g o j : Nat) : (⟨g, o, none⟩ : Addr).add j = ⟨g, o + j, none⟩ := by unfold Addr.add; split <;> simp_all
namespace El
variable {P : Program} {T Ts : TypeId} {α : Type} (E : El P T Ts α)
def cells (l : List α) : List Value := l.flatMap E.enc
theorem cells_length (l : List α) : (E.cells l).length = l.length * E.sz := by
  induction l with
  | nil => simp [cells]
  | cons s l ih =>
    have := E.henc s
    simp only [cells, List.flatMap_cons, List.length_append, List.length_cons] at ih ⊢
    rw [ih, this, Nat.add_mul]
    omega
theorem cells_append (l m : List α) : E.cells (l ++ m) = E.cells l ++ E.cells m := by simp [cells]
theorem cells_one (x : α) : E.cells [x] = E.enc x := by simp [cells]
theorem cells_at (l : List α) : ∀ i q j, l[i]? = some q → j < E.sz → (E.cells l)[i * E.sz + j]? = (E.enc q)[j]? := by
  induction l with
  | nil => intro i q j h; simp at h
  | cons s l ih =>
    intro i q j h hj
    have hl := E.henc s
    cases i with
    | zero =>
      simp at h
      subst h
      simp only [cells, List.flatMap_cons, Nat.zero_mul, Nat.zero_add]
      rw [List.getElem?_append_left (by omega)]
    | succ i =>
      have := ih i q j (by simpa using h) hj
      simp only [cells, List.flatMap_cons] at this ⊢
      rw [Nat.add_mul, Nat.one_mul, List.getElem?_append_right (by omega), hl, show i * E.sz + E.sz + j - E.sz = i * E.sz + j from by omega]
      exact this
theorem cells_all (l : List α) : ∀ u ∈ E.cells l, u.oneCell' = true := by
  intro u hu
  simp only [cells, List.mem_flatMap] at hu
  obtain ⟨x, _, hx⟩ := hu
  exact E.hone x u hx
/-- The slice v, of the call's own, holds the elements l. -/
def Own (w : World) (base : Nat) (v : Value) (l : List α) : Prop := w.ownsRow base T E.sz v l.length (E.cells l)
variable {E} {w w' : World} {base : Nat} {v : Value} {l : List α}
theorem own_nil (w : World) (base : Nat) : E.Own w base (.slice none 0 0) [] := by
  unfold Own
  exact World.ownsRow_nil w base T E.sz
theorem Own.new (h : E.Own w base v l) (hb : But No w w') : E.Own w' base v l := own_but h hb (fun _ _ _ c => c)
theorem Own.drewN (h : E.Own w base v l) (n : Nat) : E.Own (w.drewN n) base v l := h
theorem Own.alloc (h : E.Own w base v l) (o : Obj) : E.Own (w.alloc o) base v l := World.ownsRow.alloc h o
theorem Own.set {p : Addr} (h : E.Own w base v l) (hp : p.block < base) (u : Value) : E.Own (w.setCell p u) base v l := own_at h fun k hk => Below.heap_setCell _ _ _ _ (by have := (h.lt k hk).1; omega)
theorem Own.slice (h : E.Own w base v l) : ∃ A c, v = .slice A l.length c := own_slice h
theorem Own.lit (h : E.Own w base v l) (hl : 0 < l.length) : ∃ g c, v = .slice (some ⟨g, 0, none⟩) l.length c ∧ base ≤ g ∧ g < w.heap.size ∧ l.length ≤ c ∧ c ≤ 9223372036854775807 := by
  rcases h.2 with ⟨hv, h0⟩ | ⟨g, cap, cur, hv, hg, hh, hc, hm, hcs, ht⟩
  · omega
  · exact ⟨g, cap, hv, hg, lt_of_block hh, hc, by unfold maxLen at hm; omega⟩
theorem Own.block {g n c : Nat} (h : E.Own w base (.slice (some ⟨g, 0, none⟩) n c) l) : base ≤ g ∧ g < w.heap.size ∧ n = l.length := by
  rcases h.2 with ⟨hv, h0⟩ | ⟨g', cap, cur, hv, hg, hh, hc, hm, hcs, ht⟩
  · cases hv
  · injection hv with hA hB hC
    injection hA with hA
    injection hA with hA
    subst hA
    exact ⟨hg, lt_of_block hh, hB⟩
theorem Own.form (h : E.Own w base v l) : (v = .slice none 0 0 ∧ l = []) ∨ ∃ g c, v = .slice (some ⟨g, 0, none⟩) l.length c ∧ base ≤ g ∧ g < w.heap.size ∧ l.length ≤ c ∧ c ≤ 9223372036854775807 := by
  rcases h.2 with ⟨hv, h0⟩ | ⟨g, cap, cur, hv, hg, hh, hc, hm, hcs, ht⟩
  · exact .inl ⟨hv, List.eq_nil_of_length_eq_zero h0⟩
  · exact .inr ⟨g, cap, hv, hg, lt_of_block hh, hc, by unfold maxLen at hm; omega⟩
theorem Own.cap {g n c : Nat} (h : E.Own w base (.slice (some ⟨g, 0, none⟩) n c) l) : l.length ≤ c := by
  rcases h.2 with ⟨hv, h0⟩ | ⟨g', cap, cur, hv, hg, hh, hc, hm, hcs, ht⟩
  · cases hv
  · injection hv with hA hB hC
    subst hC
    exact hc
theorem Own.cell {g n c : Nat} (h : E.Own w base (.slice (some ⟨g, 0, none⟩) n c) l) (i : Nat) (q : α) (hi : l[i]? = some q) (j : Nat) (u : Value) (hj : (E.enc q)[j]? = some u) : w.cell? ⟨g, i * E.sz + j, none⟩ = some u := by
  rcases h with ⟨hl, ⟨hv, h0⟩ | ⟨g', cap, cur, hv, hg, hh, hc, hm, hcs, ht⟩⟩
  · cases hv
  · injection hv with hA hB hC
    injection hA with hA
    injection hA with hA
    subst hA
    have hjs : j < E.sz := by
      have := E.henc q
      have hjl := (List.getElem?_eq_some_iff.1 hj).1
      omega
    have h2 := E.cells_at l i q j hi hjs
    rw [hj] at h2
    rw [cell_of_row w g _ cur _ _ hh, ← Array.getElem?_toList]
    rw [← ht, List.getElem?_take] at h2
    split at h2
    · exact h2
    · cases h2
/-- Cells of a part of the row. -/
theorem Own.part {g n c : Nat} {l0 l1 : List α} (h : E.Own w base (.slice (some ⟨g, 0, none⟩) n c) (l0 ++ l1)) : ∀ j u, (E.cells l1)[j]? = some u → w.cell? ((⟨g, l0.length * E.sz, none⟩ : Addr).add j) = some u := by
  intro j u hj
  rcases h with ⟨hl, ⟨hv, h0⟩ | ⟨g', cap, cur, hv, hg, hh, hc, hm, hcs, ht⟩⟩
  · cases hv
  · injection hv with hA hB hC
    injection hA with hA
    injection hA with hA
    subst hA
    have h2 : (E.cells (l0 ++ l1))[l0.length * E.sz + j]? = some u := by
      rw [E.cells_append, List.getElem?_append_right (by rw [E.cells_length]; exact Nat.le_add_right _ _), E.cells_length, Nat.add_sub_cancel_left]
      exact hj
    rw [addr_add, cell_of_row w g _ cur _ _ hh, ← Array.getElem?_toList]
    rw [← ht, List.getElem?_take] at h2
    split at h2
    · exact h2
    · cases h2
theorem Own.shrink {g n c : Nat} {l0 l1 : List α} (h : E.Own w base (.slice (some ⟨g, 0, none⟩) n c) (l0 ++ l1)) : E.Own w base (.slice (some ⟨g, 0, none⟩) l0.length c) l0 := by
  rcases h with ⟨hl, ⟨hv, h0⟩ | ⟨g', cap, cur, hv, hg, hh, hc, hm, hcs, ht⟩⟩
  · cases hv
  · injection hv with hA hB hC
    injection hA with hA
    injection hA with hA
    subst hA hC
    rw [List.length_append] at hc
    have hle : l0.length * E.sz ≤ (l0 ++ l1).length * E.sz := Nat.mul_le_mul_right _ (by simp)
    refine ⟨E.cells_length l0, .inr ⟨g, c, cur, rfl, hg, hh, by omega, hm, hcs, ?_⟩⟩
    have := congrArg (List.take (l0.length * E.sz)) ht
    rw [List.take_take, Nat.min_eq_left hle] at this
    rw [this, E.cells_append, List.take_left' (E.cells_length l0)]
theorem Own.fresh (w : World) (base : Nat) (hb : base ≤ w.heap.size) : E.Own (w.alloc (.cells #[] T)) base (.slice (some ⟨w.heap.size, 0, none⟩) 0 0) [] :=
  ⟨by simp [cells], .inr ⟨_, 0, #[], rfl, hb, heap_alloc_new _ _, Nat.le_refl _, by unfold maxLen; omega, by simp, by simp [cells]⟩⟩
theorem Own.fresh' (w : World) (base : Nat) {b : Nat} (h : w.heap.size = b) (hb : base ≤ b) : E.Own (w.alloc (.cells #[] T)) base (.slice (some ⟨b, 0, none⟩) 0 0) [] := by
  subst h
  exact Own.fresh w base hb
/-- append of elements that lie at an address. -/
theorem append (E : El P T Ts α) {ops : Array Oper} {rest : List Oper} {o : Oper} {a : Act} {W : World} {Q : Exit → Act → World → Prop} (hgd : o.guard = none) (s y : Operand)
    (ho : o.op = .call { callee := .builtin .append, args := #[s, y], argTypes := #[Ts, Ts] }) (hty : o.type = Ts)
    (base : Nat) (v : Value) (l : List α) (hs : a.eval s = v) (hI : E.Own W base v l) (ad : Addr) (m c : Nat) (ns : List α) (hm : ns.length = m) (hpos : 0 < l.length + m) (hy : a.eval y = .slice (some ad) m c)
    (hc : ∀ j u, (E.cells ns)[j]? = some u → W.cell? (ad.add j) = some u) (hl : (l.length + m) * (E.wd + 1) ≤ 140737488355328) (hb : base ≤ W.heap.size)
    (h : ∀ g2 c2 w', E.Own w' base (.slice (some ⟨g2, 0, none⟩) (l.length + m) c2) (l ++ ns) → W.grownBy w' v.ownBlock → wpList P ops Q rest (a.put o.dst (.slice (some ⟨g2, 0, none⟩) (l.length + m) c2)) w') : wpList P ops Q (o :: rest) a W := by
  obtain ⟨i, h1, h2, h3, h4⟩ := info_get E.hi
  have hn : l.length + m ≤ 140737488355328 := Nat.le_trans (Nat.le_mul_of_pos_right _ (by omega)) hl
  have hnb : (l.length + m) * E.wd ≤ 140737488355328 := Nat.le_trans (Nat.mul_le_mul_left _ (by omega)) hl
  refine wpList_append_own W hgd s y Ts ho base T i E.zero E.sz E.wd E.hu h1 h2 h3 h4 E.hzs E.hpos v l.length (E.cells l) hs hI ad m c (E.cells ns) hy (by rw [E.cells_length, hm]) hc (E.cells_all ns) (by unfold maxLen; omega) hnb hb (fun v' w' h5 h6 h7 => ?_)
  rcases h5.2 with ⟨hv, h0⟩ | ⟨g, cap, cur, hv, hg, hh, hcc, hmx, hcs, ht⟩
  · omega
  · subst hv
    refine h g cap w' ?_ h6
    unfold Own
    rw [List.length_append, hm, E.cells_append]
    exact h5
/-- append inside a region that draws its order. -/
theorem step (E : El P T Ts α) {ops : Array Oper} {o : Oper} {a : Act} {W : World} {K : Act → World → Prop} {Q : Exit → Act → World → Prop} {Ex : Prop} (hgd : o.guard = none) (s y : Operand)
    (ho : o.op = .call { callee := .builtin .append, args := #[s, y], argTypes := #[Ts, Ts] }) (hty : o.type = Ts)
    (base : Nat) (v : Value) (l : List α) (hs : a.eval s = v) (hI : E.Own W base v l) (ad : Addr) (m c : Nat) (ns : List α) (hm : ns.length = m) (hpos : 0 < l.length + m) (hy : a.eval y = .slice (some ad) m c)
    (hc : ∀ j u, (E.cells ns)[j]? = some u → W.cell? (ad.add j) = some u) (hl : (l.length + m) * (E.wd + 1) ≤ 140737488355328) (hb : base ≤ W.heap.size)
    (h : ∀ g2 c2 w', E.Own w' base (.slice (some ⟨g2, 0, none⟩) (l.length + m) c2) (l ++ ns) → W.grownBy w' v.ownBlock → K (a.put o.dst (.slice (some ⟨g2, 0, none⟩) (l.length + m) c2)) w') :
    if Region.wanted o (yielded ops a.tmps) = true then Oper.wp P o a W K Q else Ex := by
  obtain ⟨i, h1, h2, h3, h4⟩ := info_get E.hi
  have hn : l.length + m ≤ 140737488355328 := Nat.le_trans (Nat.le_mul_of_pos_right _ (by omega)) hl
  have hnb : (l.length + m) * E.wd ≤ 140737488355328 := Nat.le_trans (Nat.mul_le_mul_left _ (by omega)) hl
  have hw : Region.wanted o (yielded ops a.tmps) = true := by simp [Region.wanted, hgd]
  rw [if_pos hw]
  refine wp_append_own W s y Ts ho base T i E.zero E.sz E.wd E.hu h1 h2 h3 h4 E.hzs E.hpos v l.length (E.cells l) hs hI ad m c (E.cells ns) hy (by rw [E.cells_length, hm]) hc (E.cells_all ns) (by unfold maxLen; omega) hnb hb (fun v' w' h5 h6 h7 => ?_)
  rcases h5.2 with ⟨hv, h0⟩ | ⟨g, cap, cur, hv, hg, hh, hcc, hmx, hcs, ht⟩
  · omega
  · subst hv
    refine h g cap w' ?_ h6
    unfold Own
    rw [List.length_append, hm, E.cells_append]
    exact h5
theorem step1 (E : El P T Ts α) {ops : Array Oper} {o : Oper} {a : Act} {W : World} {K : Act → World → Prop} {Q : Exit → Act → World → Prop} {Ex : Prop} (hgd : o.guard = none) (s y : Operand)
    (ho : o.op = .call { callee := .builtin .append, args := #[s, y], argTypes := #[Ts, Ts] }) (hty : o.type = Ts)
    (base : Nat) (v : Value) (l : List α) (hs : a.eval s = v) (hI : E.Own W base v l) (g1 : Nat) (x : α) (cs : Array Value) (hcs : cs.toList = E.enc x) (hy : a.eval y = .slice (some ⟨g1, 0, none⟩) 1 1)
    (hc : W.heap[g1]? = some (.cells cs T (0, 0))) (hl : (l.length + 1) * (E.wd + 1) ≤ 140737488355328) (hb : base ≤ W.heap.size)
    (h : ∀ g2 c2 w', E.Own w' base (.slice (some ⟨g2, 0, none⟩) (l.length + 1) c2) (l ++ [x]) → W.grownBy w' v.ownBlock → K (a.put o.dst (.slice (some ⟨g2, 0, none⟩) (l.length + 1) c2)) w') :
    if Region.wanted o (yielded ops a.tmps) = true then Oper.wp P o a W K Q else Ex := by
  refine E.step hgd s y ho hty base v l hs hI ⟨g1, 0, none⟩ 1 1 [x] rfl (by omega) hy ?_ hl hb h
  intro j u hj
  rw [E.cells_one] at hj
  rw [addr_add, cell_of_row W g1 _ cs _ _ hc, ← Array.getElem?_toList, hcs, Nat.zero_add]
  exact hj
/-- .. and where the row lies now. -/
theorem appendL (E : El P T Ts α) {ops : Array Oper} {rest : List Oper} {o : Oper} {a : Act} {W : World} {Q : Exit → Act → World → Prop} (hgd : o.guard = none) (s y : Operand)
    (ho : o.op = .call { callee := .builtin .append, args := #[s, y], argTypes := #[Ts, Ts] }) (hty : o.type = Ts)
    (base : Nat) (v : Value) (l : List α) (hs : a.eval s = v) (hI : E.Own W base v l) (ad : Addr) (m c : Nat) (ns : List α) (hm : ns.length = m) (hpos : 0 < m) (hy : a.eval y = .slice (some ad) m c)
    (hc : ∀ j u, (E.cells ns)[j]? = some u → W.cell? (ad.add j) = some u) (hl : (l.length + m) * (E.wd + 1) ≤ 140737488355328) (hb : base ≤ W.heap.size)
    (h : ∀ g2 c2 w', E.Own w' base (.slice (some ⟨g2, 0, none⟩) (l.length + m) c2) (l ++ ns) → W.grownBy w' v.ownBlock → (v.ownBlock = some g2 ∨ g2 = W.heap.size) → wpList P ops Q rest (a.put o.dst (.slice (some ⟨g2, 0, none⟩) (l.length + m) c2)) w') : wpList P ops Q (o :: rest) a W := by
  obtain ⟨i, h1, h2, h3, h4⟩ := info_get E.hi
  have hn : l.length + m ≤ 140737488355328 := Nat.le_trans (Nat.le_mul_of_pos_right _ (by omega)) hl
  have hnb : (l.length + m) * E.wd ≤ 140737488355328 := Nat.le_trans (Nat.mul_le_mul_left _ (by omega)) hl
  refine wpList_plain hgd fun _ hK => wp_append_lies W s y Ts ho base T i E.zero E.sz E.wd E.hu h1 h2 h3 h4 E.hzs E.hpos v l.length (E.cells l) hs hI ad m c (E.cells ns) hy (by rw [E.cells_length, hm]) hc (E.cells_all ns) hpos (by unfold maxLen; omega) hnb hb _ rfl (fun g cap w' h5 h6 h7 _ => hK _ _ (h g cap w' ?_ h6 h7))
  unfold Own
  rw [List.length_append, hm, E.cells_append]
  exact h5
theorem append1L (E : El P T Ts α) {ops : Array Oper} {rest : List Oper} {o : Oper} {a : Act} {W : World} {Q : Exit → Act → World → Prop} (hgd : o.guard = none) (s y : Operand)
    (ho : o.op = .call { callee := .builtin .append, args := #[s, y], argTypes := #[Ts, Ts] }) (hty : o.type = Ts)
    (base : Nat) (v : Value) (l : List α) (hs : a.eval s = v) (hI : E.Own W base v l) (g1 : Nat) (x : α) (cs : Array Value) (hcs : cs.toList = E.enc x) (hy : a.eval y = .slice (some ⟨g1, 0, none⟩) 1 1)
    (hc : W.heap[g1]? = some (.cells cs T (0, 0))) (hl : (l.length + 1) * (E.wd + 1) ≤ 140737488355328) (hb : base ≤ W.heap.size)
    (h : ∀ g2 c2 w', E.Own w' base (.slice (some ⟨g2, 0, none⟩) (l.length + 1) c2) (l ++ [x]) → W.grownBy w' v.ownBlock → (v.ownBlock = some g2 ∨ g2 = W.heap.size) → wpList P ops Q rest (a.put o.dst (.slice (some ⟨g2, 0, none⟩) (l.length + 1) c2)) w') : wpList P ops Q (o :: rest) a W := by
  refine E.appendL hgd s y ho hty base v l hs hI ⟨g1, 0, none⟩ 1 1 [x] rfl (by omega) hy ?_ hl hb h
  intro j u hj
  rw [E.cells_one] at hj
  rw [addr_add, cell_of_row W g1 _ cs _ _ hc, ← Array.getElem?_toList, hcs, Nat.zero_add]
  exact hj
/-- append of one element that was just made. -/
theorem append1 (E : El P T Ts α) {ops : Array Oper} {rest : List Oper} {o : Oper} {a : Act} {W : World} {Q : Exit → Act → World → Prop} (hgd : o.guard = none) (s y : Operand)
    (ho : o.op = .call { callee := .builtin .append, args := #[s, y], argTypes := #[Ts, Ts] }) (hty : o.type = Ts)
    (base : Nat) (v : Value) (l : List α) (hs : a.eval s = v) (hI : E.Own W base v l) (g1 : Nat) (x : α) (cs : Array Value) (hcs : cs.toList = E.enc x) (hy : a.eval y = .slice (some ⟨g1, 0, none⟩) 1 1)
    (hc : W.heap[g1]? = some (.cells cs T (0, 0))) (hl : (l.length + 1) * (E.wd + 1) ≤ 140737488355328) (hb : base ≤ W.heap.size)
    (h : ∀ g2 c2 w', E.Own w' base (.slice (some ⟨g2, 0, none⟩) (l.length + 1) c2) (l ++ [x]) → W.grownBy w' v.ownBlock → wpList P ops Q rest (a.put o.dst (.slice (some ⟨g2, 0, none⟩) (l.length + 1) c2)) w') : wpList P ops Q (o :: rest) a W := by
  refine E.append hgd s y ho hty base v l hs hI ⟨g1, 0, none⟩ 1 1 [x] rfl (by omega) hy ?_ hl hb h
  intro j u hj
  rw [E.cells_one] at hj
  rw [addr_add, cell_of_row W g1 _ cs _ _ hc, ← Array.getElem?_toList, hcs, Nat.zero_add]
  exact hj
theorem Own.grown {w0 W : World} {S : Nat → Prop} (hb : But S w0 W) (h : E.Own W base v l) (hg : W.grownBy w' v.ownBlock) (h0 : w0.heap.size ≤ base) : But S w0 w' := hb.grow hg h h0
end El
end Go.Proofs.Ytinhlaiogkmkfaa.G
end
section
/- expr's walk over steps: the stack, and what is taken from it. -/
namespace Go.Proofs.Ytinhlaiogkmkfaa.G
open Go.RowKit
attribute [local simp, local go_sem] alloc_drewN setCell_drewN
set_option linter.unusedVariables false
set_option linter.unusedSimpArgs false
set_option maxRecDepth 100000
/-- A part that was gone through. -/
structure Prt where
  truth : Bool
  lit : Bool
  text : ByteArray
def prE : El Try.prog 78 73 Prt where
  enc q := [.bool q.truth, .bool q.lit, .string q.text]
  sz := 3
  wd := 24
  zero := .agg #[.bool false, .bool false, .string ByteArray.empty]
  hpos := by decide
  henc _ := rfl
  hone q u hu := by
    simp only [List.mem_cons, List.not_mem_nil, or_false] at hu
    rcases hu with rfl | rfl | rfl <;> rfl
  hi := by kernel_rfl
  hzs := rfl
  hu := Try.underlying73
def Ge (g : Nat) : Nat → Prop := fun k => g ≤ k
/-- The walk at block g holds the stack st in the slice v. -/
def Wk (w : World) (g : Nat) (v : Value) (st : List Prt) : Prop := w.heap[g]? = some (.cells #[v] 75 (0, 0)) ∧ prE.Own w (g + 1) v st
theorem Wk.lt {w : World} {g : Nat} {v : Value} {st : List Prt} (h : Wk w g v st) : g < w.heap.size := lt_of_block h.1
theorem Wk.cell {w : World} {g : Nat} {v : Value} {st : List Prt} (h : Wk w g v st) : w.cell? ⟨g, 0, none⟩ = some v := by
  rw [cell_of_row w g 0 _ _ _ h.1]
  rfl
theorem Wk.free {w : World} {g : Nat} {v : Value} {st : List Prt} (h : Wk w g v st) (i : Nat) : w.frozen? ⟨g, i, none⟩ = false := blkfree h.1 i
theorem Wk.new {w w' : World} {g : Nat} {v : Value} {st : List Prt} (h : Wk w g v st) (hb : But No w w') : Wk w' g v st :=
  ⟨(hb.block g h.lt (fun c => c)).trans h.1, h.2.new hb⟩
theorem Wk.put {w : World} {g : Nat} {v v' : Value} {st st' : List Prt} (h : Wk w g v st) (ho : prE.Own w (g + 1) v' st') : Wk (w.setCell ⟨g, 0, none⟩ v') g v' st' :=
  ⟨by rw [blkset h.1 0 v']; rfl, ho.set (p := ⟨g, 0, none⟩) (Nat.lt_succ_self g) _⟩
/-- What is taken lies in a slice of its own. -/
def Lies (w : World) (v : Value) (l : List Prt) : Prop := ∃ b c, v = .slice (some ⟨b, 0, none⟩) l.length c ∧ ∀ i q, l[i]? = some q → w.cell? ⟨b, i * 3, none⟩ = some (.bool q.truth) ∧ w.cell? ⟨b, i * 3 + 1, none⟩ = some (.bool q.lit) ∧ w.cell? ⟨b, i * 3 + 2, none⟩ = some (.string q.text)
def Has (st : List Prt) (k : Nat) (t : Bool) : Prop := ∃ st0 l, st = st0 ++ l ∧ l.length = k ∧ ∀ q ∈ l, q.truth = t
def TakesPost (w : World) (g : Nat) (st : List Prt) (k : Nat) (t : Bool) (e : Ending) (w' : World) : Prop :=
  But (Ge g) w w' ∧
    ((e = .returned (.tuple #[.slice none 0 0, .bool false]) ∧ (∃ v, Wk w' g v st) ∧ ¬ Has st k t) ∨
      ∃ st0 l v v', st = st0 ++ l ∧ l.length = k ∧ (∀ q ∈ l, q.truth = t) ∧ e = .returned (.tuple #[v, .bool true]) ∧ Lies w' v l ∧ Wk w' g v' st0)
set_option maxHeartbeats 8000000 in
theorem takes0 (g : Nat) (st : List Prt) (v : Value) (b k : Nat) (t : Bool) (w : World) (h : Wk w g v st) (hst : st.length ≤ 1024) (hk : 1 ≤ k) (hk2 : k ≤ 2) (hb : g < b) (hb2 : b < w.heap.size)
    (hc : ∀ i, i < k → w.cell? ⟨b, i, none⟩ = some (.bool t)) :
    Calls Try.prog 65 #[.pointer (some ⟨g, 0, none⟩), .slice (some ⟨b, 0, none⟩) k k] w (TakesPost w g st k t) := by
  have hg0 := h.cell
  by_cases h1 : st.length < k
  · have hN : ¬ Has st k t := by
      rintro ⟨st0, l, e1, e2, _⟩
      rw [e1, List.length_append] at h1
      omega
    obtain ⟨A, c, rfl⟩ := h.2.slice
    have d1 : decide ((st.length : Int) - (k : Int) < 0) = true := by simp; omega
    have p1 : (st.length : Int) - (k : Int) < 0 := by omega
    have HN := Lib.hid hN
    clear hN hc
    go_enter Try.func65, Try.ntmps65
    go_wp2_with fail
    go_ret2
    exact ⟨But.refl _ _, .inl ⟨rfl, ⟨_, h⟩, HN.out⟩⟩
  · obtain ⟨gs, c, rfl, hgs, hgsl, hcap, hmx⟩ := h.2.lit (by omega)
    obtain ⟨m, hm⟩ : ∃ m, st.length = m + k := ⟨st.length - k, by omega⟩
    obtain ⟨st0, l, e1, e2, e3⟩ : ∃ st0 l : List Prt, st = st0 ++ l ∧ st0.length = m ∧ l.length = k := ⟨st.take m, st.drop m, (List.take_append_drop m st).symm, by simp; omega, by simp; omega⟩
    have hO := h.2
    rw [e1] at hO
    have hsrc := hO.part
    have hown0 := hO.shrink
    rw [e2] at hsrc hown0
    have hgl := h.lt
    rw [hm] at hg0 hst
    have HS := Lib.hid hsrc
    have HO := Lib.hid hown0
    have E1 := Lib.hid e1
    have E2 := Lib.hid e2
    have E3 := Lib.hid e3
    have HW := Lib.hid h
    have HC := Lib.hid hc
    have HM := Lib.hid hm
    have hmc : m + k ≤ c := by omega
    have hne : ¬ c = m := by omega
    have d0 : decide ((m : Int) < 0) = false := by simp
    have d1 : ¬ (m : Int) < 0 := by omega
    clear hsrc hown0 hO e1 e2 e3 h hc hm hcap h1
    go_enter Try.func65, Try.ntmps65
    go_wp2_with (at_builtin; refine prE.append rfl _ _ rfl rfl w.heap.size _ [] rfl (El.Own.fresh w _ (Nat.le_refl _)) ⟨gs, m * 3, none⟩ k (c - m) l E3.out (by simp; omega) rfl (fun j u hj => ((But.refl No w).alloc _).cell_some (HS.out j u hj) (fun c => c)) (by show (([] : List Prt).length + k) * (24 + 1) ≤ _; simp; omega) (by simp) ?_; intro g2 c2 w1 hown hgrow)
    have hb1 : But No w w1 := El.Own.grown ((But.refl No w).alloc _) (El.Own.fresh (E := prE) w _ (Nat.le_refl _)) hgrow (Nat.le_refl _)
    have hown1 : prE.Own w1 w.heap.size (.slice (some ⟨g2, 0, none⟩) k c2) l := by simpa using hown
    have hcells : ∀ i q, l[i]? = some q → w1.cell? ⟨g2, i * 3, none⟩ = some (.bool q.truth) ∧ w1.cell? ⟨g2, i * 3 + 1, none⟩ = some (.bool q.lit) ∧ w1.cell? ⟨g2, i * 3 + 2, none⟩ = some (.string q.text) :=
      fun i q hq => ⟨hown1.cell i q hq 0 _ rfl, hown1.cell i q hq 1 _ rfl, hown1.cell i q hq 2 _ rfl⟩
    have hg2 := hown1.block
    have HCL := Lib.hid hcells
    have HW1 := Lib.hid (HW.out.new hb1)
    have HO1 := Lib.hid (HO.out.new hb1)
    have HB1 := Lib.hid hb1
    have hgc := HW1.out.cell
    rw [HM.out] at hgc
    have hgf := HW1.out.free 0
    have hgl1 := HW1.out.lt
    have hg2l := hg2.1
    have hg2s := hg2.2.1
    clear hgrow hown hown1 hcells hb1 hg2
    go_loopg [30] k (fun gk v30 wr => ∃ i : Nat, gk = k - i ∧ i ≤ k ∧ v30 = .int .i64 (i : Int) ∧ w1 = wr ∧ ∀ j q, j < i → l[j]? = some q → q.truth = t)
    case atStart => exact ⟨0, rfl, Nat.zero_le _, rfl, rfl, fun j q hj => absurd hj (Nat.not_lt_zero j)⟩
    case round =>
      obtain ⟨i, hgk, hi, rfl, rfl, hall⟩ := hrel
      have HGK := Lib.hid hgk
      have HA := Lib.hid hall
      clear hgk hall
      by_cases hlt : i < k
      · have hil : i < l.length := by rw [E3.out]; exact hlt
        have hc1 := (HCL.out i l[i] (List.getElem?_eq_getElem hil)).1
        have hc2 := HB1.out.cell_some (HC.out i hlt) (fun c => c)
        obtain ⟨x, hx⟩ : ∃ x, l[i].truth = x := ⟨_, rfl⟩
        rw [hx] at hc1
        by_cases hxt : x = t
        · subst hxt
          have e1 : (x != x) = false := by simp
          have HN : Hid (∀ j q, j < i + 1 → l[j]? = some q → q.truth = x) := Lib.hid (by
            intro j q hj hq
            by_cases hji : j < i
            · exact HA.out j q hji hq
            · obtain rfl : j = i := by omega
              rw [List.getElem?_eq_getElem hil] at hq
              injection hq with hq
              rw [← hq]
              exact hx)
          clear hx
          go_wp2_with fail
          go_roundg (k - (i + 1))
          case measure => rw [HGK.out]; omega
          case rel => exact ⟨i + 1, rfl, by omega, by go_num, rfl, HN.out⟩
        · have e1 : (x != t) = true := by simp [hxt]
          have e2 : (x == t) = false := by simp [hxt]
          have HN : Hid (¬ Has st k t) := Lib.hid (by
            rintro ⟨st1, l1, q1, q2, q3⟩
            have h4 : st0.length = st1.length := by
              have := congrArg List.length (E1.out.symm.trans q1)
              rw [List.length_append, List.length_append, q2, E3.out] at this
              omega
            have h5 := (List.append_inj (E1.out.symm.trans q1) h4).2
            have h6 : l[i] ∈ l1 := by rw [← h5]; exact List.getElem_mem hil
            exact hxt (hx.symm.trans (q3 _ h6)))
          clear hx hxt
          go_wp2_with fail
          go_ret2
          exact ⟨HB1.out.mono (fun _ _ c => c.elim), .inl ⟨rfl, ⟨_, HW1.out⟩, HN.out⟩⟩
      · obtain rfl : i = k := by omega
        have HL : Hid (∀ q ∈ l, q.truth = t) := Lib.hid (by
          intro q hq
          obtain ⟨j, hj, e⟩ := List.getElem_of_mem hq
          exact HA.out j q (by rw [← E3.out]; exact hj) (by rw [List.getElem?_eq_getElem hj, e]))
        have hmc2 : m ≤ c := by omega
        go_wp2_with fail
        go_ret2
        refine ⟨(HB1.out.mono (fun _ _ c => c.elim)).setCell (.inl (Nat.le_refl g)) _, .inr ⟨st0, l, _, _, E1.out, E3.out, HL.out, rfl, ⟨g2, c2, by rw [E3.out]; rfl, ?_⟩, HW1.out.put HO1.out⟩⟩
        have hsb : ∀ o, (w1.setCell ⟨g, 0, none⟩ (.slice (some ⟨gs, 0, none⟩) m c)).cell? ⟨g2, o, none⟩ = w1.cell? ⟨g2, o, none⟩ := fun o => ((But.refl (One g) w1).set1 0 _).cell (p := ⟨g2, o, none⟩) hg2s (show ¬ g2 = g by omega)
        intro j q hq
        have := HCL.out j q hq
        exact ⟨(hsb _).trans this.1, (hsb _).trans this.2.1, (hsb _).trans this.2.2⟩
end Go.Proofs.Ytinhlaiogkmkfaa.G
end
