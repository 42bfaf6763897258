/- Texts of this claim, joined: words and laws that the others use. -/
import Derived.Test.YtoaopjbgaehpfaaQGf
import Derived.Test.YtoaopjbgaehpfaaQGk
import Derived.Deep.RegionLaw
import Derived.Maps.Own
import Derived.Maps.OwnOps
import Derived.Deep.QuietTactic
import Derived.Maps.Views
section
/- The reader's steps: the walk. -/
namespace Go.Proofs.Ytoaopjbgaehpfaa.G
open Go.RowKit
attribute [local simp, local go_sem] alloc_drewN setCell_drewN
set_option linter.unusedVariables false
set_option linter.unusedSimpArgs false
set_option maxRecDepth 100000
theorem infoStep : (Try.prog.info? 142).map (fun i => (i.zero, i.size, i.bytes)) = some (some (.agg #[.bool false, .nilFunc]), 2, 16) := by kernel_rfl
/-- A step: may it match many bytes; which byte it fits. -/
structure Stp where
  many : Bool
  fits : Int → Bool
/-- .. and the function that it holds. -/
structure Stq where
  s : Stp
  fn : Nat
  cp : Array Value
def stqCells (l : List Stq) : List Value := l.flatMap fun q => [.bool q.s.many, .func (.func q.fn) #[] q.cp]
theorem stqCells_append (l m : List Stq) : stqCells (l ++ m) = stqCells l ++ stqCells m := by simp [stqCells]
/-- The slice v holds the steps l. -/
def IsSteps (w : World) (base : Nat) (v : Value) (l : List Stq) : Prop := w.ownsRow base 142 2 v l.length (stqCells l) ∧ ∀ q ∈ l, Fits w (.func (.func q.fn) #[] q.cp) q.s.fits
theorem classGo_ge0 (p : ByteArray) (fr : Nat) : ∀ (n x : Nat) (y : Int) (l : List (Int × Int)), p.size - x ≤ n → x ≤ (classGo p fr x y l).1 := by
  intro n
  induction n with
  | zero =>
    intro x y l h
    rw [classGo, dif_neg (by omega)]
    exact Nat.le_refl _
  | succ n ih =>
    intro x y l h
    rw [classGo]
    have h1 := byteA_lt p x
    have h2 := byteA_lt p (byteA p x + 1)
    split
    · split
      · exact Nat.le_trans (by omega) (ih _ _ _ (by omega))
      · exact Nat.le_trans (by omega) (ih _ _ _ (by omega))
    · exact Nat.le_refl _
theorem classGo_ge (p : ByteArray) (fr : Nat) (x : Nat) (y : Int) (l : List (Int × Int)) : x ≤ (classGo p fr x y l).1 := classGo_ge0 p fr _ x y l (Nat.le_refl _)
theorem classGo_le (p : ByteArray) (fr : Nat) : ∀ (n x : Nat) (y : Int) (l : List (Int × Int)), p.size - x ≤ n → x ≤ p.size → (classGo p fr x y l).1 ≤ p.size := by
  intro n
  induction n with
  | zero =>
    intro x y l h hx
    rw [classGo, dif_neg (by omega)]
    exact hx
  | succ n ih =>
    intro x y l h hx
    rw [classGo]
    split
    · rename_i hc
      have h1 := byteA_lt p x
      have h2 := byteA_lt p (byteA p x + 1)
      have h3 := byteA_le p x hc.1
      split
      · rename_i hd
        exact ih _ _ _ (by omega) (byteA_le p _ hd.1)
      · exact ih _ _ _ (by omega) h3
    · exact hx
/-- The brackets that stand at place x: their ranges. -/
def clsF (p : ByteArray) (x : Nat) (y : Int) : Nat × Int × List (Int × Int) := classGo p x (if notAt p (x + 1) then x + 2 else x + 1) y []
theorem clsF_gt (p : ByteArray) (x : Nat) (y : Int) : x + 1 ≤ (clsF p x y).1 := Nat.le_trans (by split <;> omega) (classGo_ge p x _ y [])
theorem clsF_le (p : ByteArray) (x : Nat) (y : Int) (h : x < p.size) : (clsF p x y).1 ≤ p.size := by
  refine classGo_le p x _ _ y [] (Nat.le_refl _) ?_
  split
  · rename_i hn
    exact notAt_lt hn
  · exact h
/-- A pattern's steps from place x on: the first wrong place, the steps. -/
def stepsGo (p : ByteArray) (x : Nat) (y : Int) (l : List Stp) : Int × List Stp :=
  if h : x < p.size then
    if bt p x = 42 then
      if x + 1 < p.size ∧ bt p (x + 1) = 42 then stepsGo p (x + 2) y (l ++ [⟨true, fun _ => true⟩])
      else stepsGo p (x + 1) y (l ++ [⟨true, fun c => c != 47⟩])
    else if bt p x = 63 then stepsGo p (x + 1) y (l ++ [⟨false, fun c => c != 47⟩])
    else if bt p x = 91 then
      stepsGo p ((clsF p x y).1 + 1) (classBad p x (clsF p x y)) (l ++ [⟨false, classL (clsF p x y).2.2 (notAt p (x + 1))⟩])
    else stepsGo p (byteA p x) (byteB p x y) (l ++ [⟨false, fun c => c == byteV p x⟩])
  else (y, l)
termination_by p.size - x
decreasing_by
  all_goals
    have h1 := byteA_lt p x
    have h2 := clsF_gt p x y
    omega
theorem IsSteps.move {w w' : World} {S : Nat → Prop} {base : Nat} {v : Value} {l : List Stq} (h : IsSteps w base v l) (hb : But S w w') (hS : ∀ k, k < w.heap.size → S k → Sty w k)
    (hn : ∀ k, base ≤ k → ¬ S k) : IsSteps w' base v l :=
  ⟨own_but h.1 hb (fun k h1 _ => hn k h1), fun q hq => (h.2 q hq).later hb hS⟩
theorem rd_sty {w : World} {g : Nat} {p : ByteArray} {a b : Int} (h : Rd w g p a b) : ∀ k, k < w.heap.size → One g k → Sty w k := fun k _ e => .inr ⟨_, _, e ▸ h⟩
theorem no_sty {w : World} : ∀ k, k < w.heap.size → No k → Sty w k := fun _ _ h => h.elim
theorem own_typ {w : World} {base : Nat} {e : TypeId} {size n : Nat} {v : Value} {xs : List Value} (h : w.ownsRow base e size v n xs) (k : Nat) (hk : v.ownBlock = some k) : Typ w k e := by
  rcases h.2 with ⟨rfl, _⟩ | ⟨g, cap, cur, rfl, hg, hh, r⟩
  · simp [Value.ownBlock] at hk
  · have : g = k := by simpa [Value.ownBlock] using hk
    subst this
    exact ⟨_, _, hh⟩
theorem IsSteps.push {W w1 : World} {base : Nat} {v v' : Value} {l : List Stq} (h : IsSteps W base v l) (q : Stq) (hq : Fits W (.func (.func q.fn) #[] q.cp) q.s.fits)
    (ho : w1.ownsRow base 142 2 v' (l.length + 1) (stqCells l ++ [.bool q.s.many, .func (.func q.fn) #[] q.cp])) (hg : W.grownBy w1 v.ownBlock) : IsSteps w1 base v' (l ++ [q]) := by
  have hb : But (fun k => some k = v.ownBlock) W w1 := ⟨hg.os, hg.tape, hg.output, hg.size, fun k hk hn => hg.block k hk hn⟩
  have hS : ∀ k, k < W.heap.size → some k = v.ownBlock → Sty W k := fun k _ e => .inl (own_typ h.1 k e.symm)
  refine ⟨?_, fun q' hq' => ?_⟩
  · rw [List.length_append, stqCells_append]
    exact ho
  · rcases List.mem_append.1 hq' with h1 | h1
    · exact (h.2 q' h1).later hb hS
    · rw [List.mem_singleton.1 h1]
      exact hq.later hb hS
theorem own_drewN {w : World} {base : Nat} {e : TypeId} {size n m : Nat} {v : Value} {xs : List Value} (h : w.ownsRow base e size v n xs) : (w.drewN m).ownsRow base e size v n xs := h
theorem IsSteps.drewN {w : World} {base : Nat} {v : Value} {l : List Stq} (h : IsSteps w base v l) (n : Nat) : IsSteps (w.drewN n) base v l := h.move ((But.refl No w).drewN n) no_sty (fun _ _ h => h)
theorem IsSteps.alloc {w : World} {base : Nat} {v : Value} {l : List Stq} (h : IsSteps w base v l) (o : Obj) : IsSteps (w.alloc o) base v l := h.move ((But.refl No w).alloc o) no_sty (fun _ _ h => h)
def StepsAt (w : World) (g : Nat) (p : ByteArray) (G : Int × List Stp) (k : Nat) (v : Value) (wr : World) : Prop :=
  ∃ (x : Nat) (y : Int) (l : List Stq), k = p.size + 1 - x ∧ x ≤ p.size + 1 ∧ l.length ≤ x ∧ Rd wr g p x y ∧ But (One g) w wr ∧ IsSteps wr w.heap.size v l ∧ stepsGo p x y (l.map Stq.s) = G
def StepsPost (w : World) (g : Nat) (p : ByteArray) (G : Int × List Stp) (e : Ending) (w' : World) : Prop :=
  ∃ v l x, e = .returned v ∧ But (One g) w w' ∧ Rd w' g p x G.1 ∧ IsSteps w' w.heap.size v l ∧ l.map Stq.s = G.2 ∧ l.length ≤ p.size + 1
set_option maxHeartbeats 8000000 in
theorem steps0 (g : Nat) (p : ByteArray) (w : World) (h : Rd w g p (0 : Nat) (-1)) (hp : p.size ≤ 256) (G : Int × List Stp) (hG : stepsGo p 0 (-1) [] = G) :
    Calls Try.prog 97 #[.pointer (some ⟨g, 0, none⟩)] w (StepsPost w g p G) := by
  have HG := Lib.hid hG
  clear hG
  have hp' : p.size ≤ 1000 := by omega
  have hg := h.lt
  obtain ⟨i0, hi0, hz0, hz1, hz2⟩ := info_parts infoStep
  go_enter Try.func97, Try.ntmps97
  go_wp2_with fail
  go_loopg [3] (p.size + 1) (fun k v wr => StepsAt w g p G k v wr)
  case atStart => exact ⟨0, -1, [], rfl, Nat.zero_le _, Nat.zero_le _, h, But.refl _ _, ⟨World.ownsRow_nil _ _ _ _, fun q hq => by cases hq⟩, HG.out⟩
  case round =>
    obtain ⟨x, y, l, hkx, hxle, hll, hr, hb, hI, hGo⟩ := hrel
    have HKX := Lib.hid hkx
    have HGo := Lib.hid hGo
    clear hkx hGo HG h
    obtain ⟨A0, c0, rfl⟩ := own_slice hI.1
    rcases Nat.lt_or_ge x p.size with hlt | hge
    · skip
      have h0 := hr.c0
      have h1 := hr.c1
      have f1 := hr.fr 1
      have hbt := bt_at p x hlt
      by_cases c42 : bt p x = 42
      · have c42b : (bt p x == 42) = true := beq_iff_eq.2 c42
        by_cases c1 : x + 1 < p.size
        · have hbt1 := bt_at p (x + 1) c1
          have d1 : decide ((x : Int) + 1 < (p.size : Int)) = true := by simp; omega
          by_cases c2 : bt p (x + 1) = 42
          · have c2b : (bt p (x + 1) == 42) = true := beq_iff_eq.2 c2
            have E := Lib.hid (show stepsGo p x y (l.map Stq.s) = stepsGo p (x + 2) y (l.map Stq.s ++ [⟨true, fun _ => true⟩]) from by rw [stepsGo, dif_pos hlt, if_pos c42, if_pos ⟨c1, c2⟩])
            clear c42 c2
            have hr1 := hr.set1 ((x + 2 : Nat) : Int)
            have hI1 : IsSteps (wr.setCell ⟨g, 1, none⟩ (.int .i64 ((x + 2 : Nat) : Int))) _ _ _ := hI.move ((But.refl (One g) wr).set1 1 _) (rd_sty hr) (fun k hk e => by unfold One at e; omega)
            have hbw := hb.set1 1 (.int .i64 ((x + 2 : Nat) : Int))
            go_wp2_with fail
            refine (end_no g p x y _ hr hp' (by omega)).mono ?_
            rintro e w1 ⟨rfl, n, rfl⟩
            go_wp2_with fail
            go_quiet (fail)
            go_wp2_with fail
            go_quiet (fail)
            go_wp2_with (at_builtin; refine wpList_append_own _ rfl _ _ 131 rfl w.heap.size 142 i0 (.agg #[.bool false, .nilFunc]) 2 16 Try.underlying131 hi0 hz0 hz1 hz2 rfl (by decide) _ _ _ rfl (by repeat (first | exact hI1.1 | apply own_drewN | apply World.ownsRow.alloc)) ⟨wr.heap.size, 0, none⟩ 1 1 [.bool true, .func (.func 100) #[] #[]] rfl rfl ?c1 ?c2 ?c3 ?c4 ?c5 ?_)
            case c1 =>
              intro j u hj
              rcases j with _ | _ | j <;> simp at hj <;> subst hj <;> simp [Addr.add] <;> go_simp
            case c2 =>
              intro u hu
              simp at hu
              rcases hu with rfl | rfl <;> rfl
            case c3 => unfold maxLen; omega
            case c4 => omega
            case c5 => simp; have := hbw.size; (try simp at this); omega
            intro v' w1 hown' hgrow _
            have q0 : Rd w1 g p (x + 2 : Nat) y := by
              refine blk_grown (base := w.heap.size) (e := 142) (size := 2) (n := l.length) (xs := stqCells l) ?_ hgrow ?_ hg
              · show Rd _ g p _ _
                repeat (first | exact hr1 | apply Rd.drewN | apply Rd.alloc)
              · repeat (first | exact hI1.1 | apply own_drewN | apply World.ownsRow.alloc)
            have q3 : But (One g) w w1 := by
              refine But.grow (base := w.heap.size) (e := 142) (size := 2) (n := l.length) (xs := stqCells l) ?_ hgrow ?_ (Nat.le_refl _)
              · repeat (first | exact hbw | apply But.drewN | apply But.alloc)
              · repeat (first | exact hI1.1 | apply own_drewN | apply World.ownsRow.alloc)
            have q4 : IsSteps w1 w.heap.size v' (l ++ [⟨⟨true, fun _ => true⟩, 100, #[]⟩]) := by
              refine IsSteps.push ?_ _ ?_ hown' hgrow
              · repeat (first | exact hI1 | apply IsSteps.drewN | apply IsSteps.alloc)
              · exact all_fits _
            clear hgrow hown' hI1 hI hbw
            go_wp2_with fail
            go_roundg (p.size + 1 - (x + 2))
            case measure => rw [HKX.out]; omega
            case rel =>
              refine ⟨x + 2, y, _, rfl, ?_, ?_, q0, q3, q4, ?_⟩
              · omega
              · simp; omega
              · rw [← HGo.out, E.out, List.map_append]
                rfl

          · have c2b : (bt p (x + 1) == 42) = false := beq_eq_false_iff_ne.2 c2
            have c1' : ¬ (x + 1 < p.size ∧ bt p (x + 1) = 42) := fun h => c2 h.2
            have E := Lib.hid (show stepsGo p x y (l.map Stq.s) = stepsGo p (x + 1) y (l.map Stq.s ++ [⟨true, fun c => c != 47⟩]) from by rw [stepsGo, dif_pos hlt, if_pos c42, if_neg c1'])
            clear c42 c2 c1'
            have hr1 := hr.set1 ((x + 1 : Nat) : Int)
            have hI1 : IsSteps (wr.setCell ⟨g, 1, none⟩ (.int .i64 ((x + 1 : Nat) : Int))) _ _ _ := hI.move ((But.refl (One g) wr).set1 1 _) (rd_sty hr) (fun k hk e => by unfold One at e; omega)
            have hbw := hb.set1 1 (.int .i64 ((x + 1 : Nat) : Int))
            go_wp2_with fail
            refine (end_no g p x y _ hr hp' (by omega)).mono ?_
            rintro e w1 ⟨rfl, n, rfl⟩
            go_wp2_with fail
            go_quiet (fail)
            go_wp2_with fail
            go_quiet (fail)
            go_wp2_with (at_builtin; refine wpList_append_own _ rfl _ _ 131 rfl w.heap.size 142 i0 (.agg #[.bool false, .nilFunc]) 2 16 Try.underlying131 hi0 hz0 hz1 hz2 rfl (by decide) _ _ _ rfl (by repeat (first | exact hI1.1 | apply own_drewN | apply World.ownsRow.alloc)) ⟨wr.heap.size, 0, none⟩ 1 1 [.bool true, .func (.func 101) #[] #[]] rfl rfl ?c1 ?c2 ?c3 ?c4 ?c5 ?_)
            case c1 =>
              intro j u hj
              rcases j with _ | _ | j <;> simp at hj <;> subst hj <;> simp [Addr.add] <;> go_simp
            case c2 =>
              intro u hu
              simp at hu
              rcases hu with rfl | rfl <;> rfl
            case c3 => unfold maxLen; omega
            case c4 => omega
            case c5 => simp; have := hbw.size; (try simp at this); omega
            intro v' w1 hown' hgrow _
            have q0 : Rd w1 g p (x + 1 : Nat) y := by
              refine blk_grown (base := w.heap.size) (e := 142) (size := 2) (n := l.length) (xs := stqCells l) ?_ hgrow ?_ hg
              · show Rd _ g p _ _
                repeat (first | exact hr1 | apply Rd.drewN | apply Rd.alloc)
              · repeat (first | exact hI1.1 | apply own_drewN | apply World.ownsRow.alloc)
            have q3 : But (One g) w w1 := by
              refine But.grow (base := w.heap.size) (e := 142) (size := 2) (n := l.length) (xs := stqCells l) ?_ hgrow ?_ (Nat.le_refl _)
              · repeat (first | exact hbw | apply But.drewN | apply But.alloc)
              · repeat (first | exact hI1.1 | apply own_drewN | apply World.ownsRow.alloc)
            have q4 : IsSteps w1 w.heap.size v' (l ++ [⟨⟨true, fun c => c != 47⟩, 101, #[]⟩]) := by
              refine IsSteps.push ?_ _ ?_ hown' hgrow
              · repeat (first | exact hI1 | apply IsSteps.drewN | apply IsSteps.alloc)
              · exact plain_fits _
            clear hgrow hown' hI1 hI hbw
            go_wp2_with fail
            go_roundg (p.size + 1 - (x + 1))
            case measure => rw [HKX.out]; omega
            case rel =>
              refine ⟨x + 1, y, _, rfl, ?_, ?_, q0, q3, q4, ?_⟩
              · omega
              · simp; omega
              · rw [← HGo.out, E.out, List.map_append]
                rfl

        · have d1 : decide ((x : Int) + 1 < (p.size : Int)) = false := by simp; omega
          have c1' : ¬ (x + 1 < p.size ∧ bt p (x + 1) = 42) := fun h => c1 h.1
          have E := Lib.hid (show stepsGo p x y (l.map Stq.s) = stepsGo p (x + 1) y (l.map Stq.s ++ [⟨true, fun c => c != 47⟩]) from by rw [stepsGo, dif_pos hlt, if_pos c42, if_neg c1'])
          clear c42 c1'
          have hr1 := hr.set1 ((x + 1 : Nat) : Int)
          have hI1 : IsSteps (wr.setCell ⟨g, 1, none⟩ (.int .i64 ((x + 1 : Nat) : Int))) _ _ _ := hI.move ((But.refl (One g) wr).set1 1 _) (rd_sty hr) (fun k hk e => by unfold One at e; omega)
          have hbw := hb.set1 1 (.int .i64 ((x + 1 : Nat) : Int))
          go_wp2_with fail
          refine (end_no g p x y _ hr hp' (by omega)).mono ?_
          rintro e w1 ⟨rfl, n, rfl⟩
          go_wp2_with fail
          go_quiet (fail)
          go_wp2_with fail
          go_quiet (fail)
          go_wp2_with (at_builtin; refine wpList_append_own _ rfl _ _ 131 rfl w.heap.size 142 i0 (.agg #[.bool false, .nilFunc]) 2 16 Try.underlying131 hi0 hz0 hz1 hz2 rfl (by decide) _ _ _ rfl (by repeat (first | exact hI1.1 | apply own_drewN | apply World.ownsRow.alloc)) ⟨wr.heap.size, 0, none⟩ 1 1 [.bool true, .func (.func 101) #[] #[]] rfl rfl ?c1 ?c2 ?c3 ?c4 ?c5 ?_)
          case c1 =>
            intro j u hj
            rcases j with _ | _ | j <;> simp at hj <;> subst hj <;> simp [Addr.add] <;> go_simp
          case c2 =>
            intro u hu
            simp at hu
            rcases hu with rfl | rfl <;> rfl
          case c3 => unfold maxLen; omega
          case c4 => omega
          case c5 => simp; have := hbw.size; (try simp at this); omega
          intro v' w1 hown' hgrow _
          have q0 : Rd w1 g p (x + 1 : Nat) y := by
            refine blk_grown (base := w.heap.size) (e := 142) (size := 2) (n := l.length) (xs := stqCells l) ?_ hgrow ?_ hg
            · show Rd _ g p _ _
              repeat (first | exact hr1 | apply Rd.drewN | apply Rd.alloc)
            · repeat (first | exact hI1.1 | apply own_drewN | apply World.ownsRow.alloc)
          have q3 : But (One g) w w1 := by
            refine But.grow (base := w.heap.size) (e := 142) (size := 2) (n := l.length) (xs := stqCells l) ?_ hgrow ?_ (Nat.le_refl _)
            · repeat (first | exact hbw | apply But.drewN | apply But.alloc)
            · repeat (first | exact hI1.1 | apply own_drewN | apply World.ownsRow.alloc)
          have q4 : IsSteps w1 w.heap.size v' (l ++ [⟨⟨true, fun c => c != 47⟩, 101, #[]⟩]) := by
            refine IsSteps.push ?_ _ ?_ hown' hgrow
            · repeat (first | exact hI1 | apply IsSteps.drewN | apply IsSteps.alloc)
            · exact plain_fits _
          clear hgrow hown' hI1 hI hbw
          go_wp2_with fail
          go_roundg (p.size + 1 - (x + 1))
          case measure => rw [HKX.out]; omega
          case rel =>
            refine ⟨x + 1, y, _, rfl, ?_, ?_, q0, q3, q4, ?_⟩
            · omega
            · simp; omega
            · rw [← HGo.out, E.out, List.map_append]
              rfl

      · have c42b : (bt p x == 42) = false := beq_eq_false_iff_ne.2 c42
        by_cases c63 : bt p x = 63
        · have c63b : (bt p x == 63) = true := beq_iff_eq.2 c63
          have E := Lib.hid (show stepsGo p x y (l.map Stq.s) = stepsGo p (x + 1) y (l.map Stq.s ++ [⟨false, fun c => c != 47⟩]) from by rw [stepsGo, dif_pos hlt, if_neg c42, if_pos c63])
          clear c42 c63
          have hr1 := hr.set1 ((x + 1 : Nat) : Int)
          have hI1 : IsSteps (wr.setCell ⟨g, 1, none⟩ (.int .i64 ((x + 1 : Nat) : Int))) _ _ _ := hI.move ((But.refl (One g) wr).set1 1 _) (rd_sty hr) (fun k hk e => by unfold One at e; omega)
          have hbw := hb.set1 1 (.int .i64 ((x + 1 : Nat) : Int))
          go_wp2_with fail
          refine (end_no g p x y _ hr hp' (by omega)).mono ?_
          rintro e w1 ⟨rfl, n, rfl⟩
          go_wp2_with fail
          go_quiet (fail)
          go_wp2_with fail
          go_quiet (fail)
          go_wp2_with (at_builtin; refine wpList_append_own _ rfl _ _ 131 rfl w.heap.size 142 i0 (.agg #[.bool false, .nilFunc]) 2 16 Try.underlying131 hi0 hz0 hz1 hz2 rfl (by decide) _ _ _ rfl (by repeat (first | exact hI1.1 | apply own_drewN | apply World.ownsRow.alloc)) ⟨wr.heap.size, 0, none⟩ 1 1 [.bool false, .func (.func 101) #[] #[]] rfl rfl ?c1 ?c2 ?c3 ?c4 ?c5 ?_)
          case c1 =>
            intro j u hj
            rcases j with _ | _ | j <;> simp at hj <;> subst hj <;> simp [Addr.add] <;> go_simp
          case c2 =>
            intro u hu
            simp at hu
            rcases hu with rfl | rfl <;> rfl
          case c3 => unfold maxLen; omega
          case c4 => omega
          case c5 => simp; have := hbw.size; (try simp at this); omega
          intro v' w1 hown' hgrow _
          have q0 : Rd w1 g p (x + 1 : Nat) y := by
            refine blk_grown (base := w.heap.size) (e := 142) (size := 2) (n := l.length) (xs := stqCells l) ?_ hgrow ?_ hg
            · show Rd _ g p _ _
              repeat (first | exact hr1 | apply Rd.drewN | apply Rd.alloc)
            · repeat (first | exact hI1.1 | apply own_drewN | apply World.ownsRow.alloc)
          have q3 : But (One g) w w1 := by
            refine But.grow (base := w.heap.size) (e := 142) (size := 2) (n := l.length) (xs := stqCells l) ?_ hgrow ?_ (Nat.le_refl _)
            · repeat (first | exact hbw | apply But.drewN | apply But.alloc)
            · repeat (first | exact hI1.1 | apply own_drewN | apply World.ownsRow.alloc)
          have q4 : IsSteps w1 w.heap.size v' (l ++ [⟨⟨false, fun c => c != 47⟩, 101, #[]⟩]) := by
            refine IsSteps.push ?_ _ ?_ hown' hgrow
            · repeat (first | exact hI1 | apply IsSteps.drewN | apply IsSteps.alloc)
            · exact plain_fits _
          clear hgrow hown' hI1 hI hbw
          go_wp2_with fail
          go_roundg (p.size + 1 - (x + 1))
          case measure => rw [HKX.out]; omega
          case rel =>
            refine ⟨x + 1, y, _, rfl, ?_, ?_, q0, q3, q4, ?_⟩
            · omega
            · simp; omega
            · rw [← HGo.out, E.out, List.map_append]
              rfl

        · skip
          have c63b : (bt p x == 63) = false := beq_eq_false_iff_ne.2 c63
          by_cases c91 : bt p x = 91
          · have c91b : (bt p x == 91) = true := beq_iff_eq.2 c91
            have E := Lib.hid (show stepsGo p x y (l.map Stq.s) = stepsGo p ((clsF p x y).1 + 1) (classBad p x (clsF p x y)) (l.map Stq.s ++ [⟨false, classL (clsF p x y).2.2 (notAt p (x + 1))⟩]) from by rw [stepsGo, dif_pos hlt, if_neg c42, if_neg c63, if_pos c91])
            clear c42 c63 c91
            have z1 := clsF_gt p x y
            have z2 := clsF_le p x y hlt
            have hr2 := hr.set1 ((x + 1 : Nat) : Int)
            have hI2 : IsSteps (wr.setCell ⟨g, 1, none⟩ (.int .i64 ((x + 1 : Nat) : Int))) _ _ _ := hI.move ((But.refl (One g) wr).set1 1 _) (rd_sty hr) (fun k hk e => by unfold One at e; omega)
            have hbw2 := hb.set1 1 (.int .i64 ((x + 1 : Nat) : Int))
            go_wp2_with fail
            refine (end_no g p x y _ hr hp' (by omega)).mono ?_
            rintro e w1 ⟨rfl, n, rfl⟩
            go_wp2_with fail
            go_quiet (fail)
            go_wp2_with fail
            go_quiet (fail)
            go_wp2_with fail
            refine (class0 g p (x + 1) y _ (by exact hr2.drewN _) hp hlt (Nat.succ_le_succ (Nat.zero_le x)) (notAt p (x + 1)) rfl (clsF p x y) rfl).mono ?_
            rintro e w2 ⟨f, rfl, hbb, hr1, hfit, fn, cp, rfl⟩
            rw [Nat.add_sub_cancel] at hr1
            have hI1 := (hI2.drewN _).move hbb (rd_sty (hr2.drewN _)) (fun k hk e => by unfold One at e; omega)
            have hbw := (hbw2.drewN _).trans hbb
            clear hbb hI2 hbw2
            generalize hF0 : (clsF p x y).1 = f0 at *
            generalize hF1 : classBad p x (clsF p x y) = y1 at *
            have HF1 := Lib.hid hF1
            clear hF1 hF0
            go_wp2_with (at_builtin; refine wpList_append_own _ rfl _ _ 131 rfl w.heap.size 142 i0 (.agg #[.bool false, .nilFunc]) 2 16 Try.underlying131 hi0 hz0 hz1 hz2 rfl (by decide) _ _ _ rfl (by repeat (first | exact hI1.1 | apply own_drewN | apply World.ownsRow.alloc)) ⟨w2.heap.size, 0, none⟩ 1 1 [.bool false, .func (.func fn) #[] cp] rfl rfl ?c1 ?c2 ?c3 ?c4 ?c5 ?_)
            case c1 =>
              intro j u hj
              rcases j with _ | _ | j <;> simp at hj <;> subst hj <;> simp [Addr.add] <;> go_simp
            case c2 =>
              intro u hu
              simp at hu
              rcases hu with rfl | rfl <;> rfl
            case c3 => unfold maxLen; omega
            case c4 => omega
            case c5 => simp; have := hbw.size; (try simp at this); omega
            intro v' w1 hown' hgrow _
            have q0 : Rd w1 g p (f0 + 1 : Nat) y1 := by
              refine blk_grown (base := w.heap.size) (e := 142) (size := 2) (n := l.length) (xs := stqCells l) ?_ hgrow ?_ hg
              · show Rd _ g p _ _
                repeat (first | exact hr1 | apply Rd.drewN | apply Rd.alloc)
              · repeat (first | exact hI1.1 | apply own_drewN | apply World.ownsRow.alloc)
            have q3 : But (One g) w w1 := by
              refine But.grow (base := w.heap.size) (e := 142) (size := 2) (n := l.length) (xs := stqCells l) ?_ hgrow ?_ (Nat.le_refl _)
              · repeat (first | exact hbw | apply But.drewN | apply But.alloc)
              · repeat (first | exact hI1.1 | apply own_drewN | apply World.ownsRow.alloc)
            have q4 : IsSteps w1 w.heap.size v' (l ++ [⟨⟨false, classL (clsF p x y).2.2 (notAt p (x + 1))⟩, fn, cp⟩]) := by
              refine IsSteps.push ?_ _ ?_ hown' hgrow
              · repeat (first | exact hI1 | apply IsSteps.drewN | apply IsSteps.alloc)
              · exact hfit.later ((But.refl No w2).alloc _) no_sty
            clear hgrow hown' hI1 hI hbw
            go_wp2_with fail
            go_roundg (p.size + 1 - (f0 + 1))
            case measure => rw [HKX.out]; omega
            case rel =>
              refine ⟨f0 + 1, y1, _, rfl, ?_, ?_, q0, q3, q4, ?_⟩
              · omega
              · simp; omega
              · rw [← HGo.out, E.out, List.map_append]
                rfl

          · have c91b : (bt p x == 91) = false := beq_eq_false_iff_ne.2 c91
            have E := Lib.hid (show stepsGo p x y (l.map Stq.s) = stepsGo p (byteA p x) (byteB p x y) (l.map Stq.s ++ [⟨false, fun c => c == byteV p x⟩]) from by rw [stepsGo, dif_pos hlt, if_neg c42, if_neg c63, if_neg c91])
            clear c42 c63 c91
            have z1 := byteA_lt p x
            have z2 := byteA_le p x hlt
            go_wp2_with fail
            refine (end_no g p x y _ hr hp' (by omega)).mono ?_
            rintro e w1 ⟨rfl, n, rfl⟩
            go_wp2_with fail
            go_quiet (fail)
            go_wp2_with fail
            go_quiet (fail)
            go_wp2_with fail
            refine (byte_ g p x y _ (by exact hr.drewN _) hp' hlt).mono ?_
            rintro e w2 ⟨rfl, hbb, hr2⟩
            have hI2 := (hI.drewN _).move hbb (rd_sty (hr.drewN _)) (fun k hk e => by unfold One at e; omega)
            have hbw2 := (hb.drewN _).trans hbb
            clear hbb
            go_wp2_with fail
            refine (one0 (byteV p x) w2).mono ?_
            rintro e w3 ⟨rfl, rfl⟩
            have hI1 := hI2.alloc (.cells #[.int .u8 (byteV p x)] 5)
            have hbw := hbw2.alloc (.cells #[.int .u8 (byteV p x)] 5)
            have hr1 := hr2.alloc (.cells #[.int .u8 (byteV p x)] 5)
            go_wp2_with (at_builtin; refine wpList_append_own _ rfl _ _ 131 rfl w.heap.size 142 i0 (.agg #[.bool false, .nilFunc]) 2 16 Try.underlying131 hi0 hz0 hz1 hz2 rfl (by decide) _ _ _ rfl (by repeat (first | exact hI1.1 | apply own_drewN | apply World.ownsRow.alloc)) ⟨w2.heap.size + 1, 0, none⟩ 1 1 [.bool false, .func (.func 109) #[] #[.pointer (some ⟨w2.heap.size, 0, none⟩)]] rfl rfl ?c1 ?c2 ?c3 ?c4 ?c5 ?_)
            case c1 =>
              intro j u hj
              rcases j with _ | _ | j <;> simp at hj <;> subst hj <;> simp [Addr.add] <;> go_simp
            case c2 =>
              intro u hu
              simp at hu
              rcases hu with rfl | rfl <;> rfl
            case c3 => unfold maxLen; omega
            case c4 => omega
            case c5 => simp; have := hbw.size; (try simp at this); omega
            intro v' w1 hown' hgrow _
            have q0 : Rd w1 g p (byteA p x : Nat) (byteB p x y) := by
              refine blk_grown (base := w.heap.size) (e := 142) (size := 2) (n := l.length) (xs := stqCells l) ?_ hgrow ?_ hg
              · show Rd _ g p _ _
                repeat (first | exact hr1 | apply Rd.drewN | apply Rd.alloc)
              · repeat (first | exact hI1.1 | apply own_drewN | apply World.ownsRow.alloc)
            have q3 : But (One g) w w1 := by
              refine But.grow (base := w.heap.size) (e := 142) (size := 2) (n := l.length) (xs := stqCells l) ?_ hgrow ?_ (Nat.le_refl _)
              · repeat (first | exact hbw | apply But.drewN | apply But.alloc)
              · repeat (first | exact hI1.1 | apply own_drewN | apply World.ownsRow.alloc)
            have q4 : IsSteps w1 w.heap.size v' (l ++ [⟨⟨false, fun c => c == byteV p x⟩, 109, #[.pointer (some ⟨w2.heap.size, 0, none⟩)]⟩]) := by
              refine IsSteps.push ?_ _ ?_ hown' hgrow
              · repeat (first | exact hI1 | apply IsSteps.drewN | apply IsSteps.alloc)
              · exact (one_fits (byteV p x) w2).later ((But.refl No _).alloc _) no_sty
            clear hgrow hown' hI1 hI hbw
            go_wp2_with fail
            go_roundg (p.size + 1 - (byteA p x))
            case measure => rw [HKX.out]; omega
            case rel =>
              refine ⟨byteA p x, (byteB p x y), _, rfl, ?_, ?_, q0, q3, q4, ?_⟩
              · omega
              · simp; omega
              · rw [← HGo.out, E.out, List.map_append]
                rfl

    · have E := Lib.hid (show stepsGo p x y (l.map Stq.s) = (y, l.map Stq.s) from by rw [stepsGo, dif_neg (by omega)])
      go_wp2_with fail
      refine (end_yes g p x y _ hr hp' (by omega)).mono ?_
      rintro e w1 ⟨rfl, n, rfl⟩
      go_wp2_with fail
      go_ret
      refine ⟨_, l, x, rfl, hb.drewN _, ?_, hI.move ((But.refl No wr).drewN n) no_sty (fun _ _ h => h), ?_, by omega⟩
      · rw [← HGo.out, E.out]; exact hr
      · rw [← HGo.out, E.out]
end Go.Proofs.Ytoaopjbgaehpfaa.G
end
section
/- read and Check. -/
namespace Go.Proofs.Ytoaopjbgaehpfaa.G
open Go.RowKit
attribute [local simp, local go_sem] alloc_drewN setCell_drewN
set_option linter.unusedVariables false
set_option linter.unusedSimpArgs false
set_option maxRecDepth 100000
def gSteps (p : ByteArray) : Int × List Stp := stepsGo p 0 (-1) []
def ReadPost (p : ByteArray) (w : World) (e : Ending) (w' : World) : Prop :=
  But No w w' ∧ ((256 < p.size ∧ e = .returned (.tuple #[.slice none 0 0, .int .i64 0, .int .i64 61])) ∨
    (p.size ≤ 256 ∧ 0 ≤ (gSteps p).1 ∧ e = .returned (.tuple #[.slice none 0 0, .int .i64 (gSteps p).1, .int .i64 60])) ∨
    (p.size ≤ 256 ∧ (gSteps p).1 < 0 ∧ ∃ v l, e = .returned (.tuple #[v, .int .i64 0, .int .i64 0]) ∧ IsSteps w' w.heap.size v l ∧ l.map Stq.s = (gSteps p).2 ∧ l.length ≤ p.size + 1))
set_option maxHeartbeats 4000000 in
theorem read0 (p : ByteArray) (w : World) (hp : p.size ≤ 9223372036854775807) :
    Calls Try.prog 94 #[.string p] w (ReadPost p w) := by
  have hp2 : p.size ≤ 9223372036854775807 := by omega
  by_cases h1 : 256 < p.size
  · go_enter Try.func94, Try.ntmps94
    go_wp2_with fail
    go_ret3
    exact ⟨But.refl _ _, .inl ⟨h1, rfl⟩⟩
  · have h2 : p.size ≤ 256 := by omega
    have hr : Rd (w.alloc (.cells #[.string p, .int .i64 0, .int .i64 (-1)] 136)) w.heap.size p (0 : Nat) (-1) := heap_alloc_new w _
    go_enter Try.func94, Try.ntmps94
    go_wp2_with fail
    refine (steps0 w.heap.size p _ hr h2 (gSteps p) rfl).mono ?_
    rintro e w1 ⟨v, l, x, rfl, hb, hr1, hI, hl, hlen⟩
    have hb1 : But No w w1 := ((But.refl No w).alloc _).trans_ hb (fun b hb e => by unfold One at e; omega)
    have hI1 : IsSteps w1 w.heap.size v l := ⟨own_mono hI.1 (by simp), hI.2⟩
    have c2 := hr1.c2
    clear hb hI
    obtain ⟨b, hbE⟩ : ∃ b, (gSteps p).1 = b := ⟨_, rfl⟩
    rw [hbE] at c2
    have HBE := Lib.hid hbE
    clear hbE hr1
    by_cases h3 : 0 ≤ b
    · go_wp2_with fail
      go_quiet (fail)
      go_wp2_with fail
      go_ret3
      exact ⟨hb1.drewN _, .inr (.inl ⟨h2, by rw [HBE.out]; exact h3, by rw [HBE.out]; rfl⟩)⟩
    · go_wp2_with fail
      go_ret3
      exact ⟨hb1, .inr (.inr ⟨h2, by rw [HBE.out]; omega, v, l, rfl, hI1, hl, hlen⟩)⟩
def checkRes (p : ByteArray) : Int × Int := if 256 < p.size then (0, 61) else if 0 ≤ (gSteps p).1 then ((gSteps p).1, 60) else (0, 0)
set_option maxHeartbeats 4000000 in
theorem check0 (p : ByteArray) (w : World) (hp : p.size ≤ 9223372036854775807) :
    Calls Try.prog 89 #[.string p] w fun e w' => e = .returned (.tuple #[.int .i64 (checkRes p).1, .int .i64 (checkRes p).2]) ∧ But No w w' := by
  go_enter Try.func89, Try.ntmps89
  go_wp2_with fail
  refine (read0 p w hp).mono ?_
  rintro e w1 ⟨hb, h⟩
  rcases h with ⟨h1, rfl⟩ | ⟨h1, h2, rfl⟩ | ⟨h1, h2, v, l, rfl, _, _, _⟩
  · have E := Lib.hid (show checkRes p = (0, 61) from if_pos h1)
    go_wp2_with fail
    go_ret2
    exact ⟨by rw [E.out]; rfl, hb⟩
  · have E := Lib.hid (show checkRes p = ((gSteps p).1, 60) from (if_neg (by omega)).trans (if_pos h2))
    go_wp2_with fail
    go_ret2
    exact ⟨by rw [E.out]; rfl, hb⟩
  · have E := Lib.hid (show checkRes p = (0, 0) from (if_neg (by omega)).trans (if_neg (by omega)))
    go_wp2_with fail
    go_ret2
    exact ⟨by rw [E.out]; rfl, hb⟩
end Go.Proofs.Ytoaopjbgaehpfaa.G
end
section
/- expr's walk over steps: one step. -/
namespace Go.Proofs.Ytoaopjbgaehpfaa.G
open Go.RowKit
attribute [local simp, local go_sem] alloc_drewN setCell_drewN
set_option linter.unusedVariables false
set_option linter.unusedSimpArgs false
set_option maxRecDepth 100000
def mt : ByteArray := ⟨#[]⟩
/-- The k parts at the top, if they are all truths (or all texts). -/
def popC (st : List Prt) (k : Nat) (t : Bool) : Option (List Prt × List Prt) :=
  if st.length < k then none
  else if (st.drop (st.length - k)).all (fun q => q.truth == t) then some (st.take (st.length - k), st.drop (st.length - k)) else none
theorem popC_none {st : List Prt} {k : Nat} {t : Bool} (h : ¬ Has st k t) : popC st k t = none := by
  unfold popC
  by_cases h1 : st.length < k
  · rw [if_pos h1]
  · rw [if_neg h1, if_neg]
    intro h2
    refine h ⟨st.take (st.length - k), st.drop (st.length - k), (List.take_append_drop _ _).symm, by simp; omega, fun q hq => ?_⟩
    have := List.all_eq_true.1 h2 q hq
    simpa using this
theorem popC_some {st0 l : List Prt} {k : Nat} {t : Bool} (h1 : l.length = k) (h2 : ∀ q ∈ l, q.truth = t) : popC (st0 ++ l) k t = some (st0, l) := by
  subst h1
  unfold popC
  rw [if_neg (by simp), List.length_append, Nat.add_sub_cancel, List.drop_left, List.take_left, if_pos]
  rw [List.all_eq_true]
  intro q hq
  simp [h2 q hq]
def tru : Prt := ⟨true, false, mt⟩
/-- What one step does to the stack; none: it may not be. -/
def stepC (st : List Prt) (k : Int) (tx : ByteArray) : Option (List Prt) :=
  let bare : Bool := tx.toList.isEmpty
  let pop (n : Nat) (t : Bool) (ok : List Prt → Bool) : Option (List Prt) := match popC st n t with
    | some (s, l) => if ok l && bare then some (s ++ [tru]) else none
    | none => none
  if k = 1 then (if tx.size ≤ 1024 then some (st ++ [⟨false, true, tx⟩]) else none)
  else if k = 2 then (if variableB tx then some (st ++ [⟨false, false, mt⟩]) else none)
  else if k = 3 then (if variableB tx then some (st ++ [tru]) else none)
  else if k = 4 ∨ k = 5 then (if bare then some (st ++ [tru]) else none)
  else if k = 6 then pop 1 false (fun _ => true)
  else if k = 7 ∨ k = 8 then pop 2 false (fun _ => true)
  else if k = 9 ∨ k = 10 then pop 2 false (fun l => match l[1]? with | some q => q.lit && (checkRes q.text).2 == 0 | none => false)
  else if k = 11 then pop 1 true (fun _ => true)
  else if k = 12 ∨ k = 13 then pop 2 true (fun _ => true)
  else none
theorem Wk.grow {W w1 : World} {g : Nat} {v : Value} {st : List Prt} (h : Wk W g v st) (hg : W.grownBy w1 v.ownBlock) : w1.heap[g]? = some (.cells #[v] 119 (0, 0)) ∧ But (Ge g) W w1 := by
  refine ⟨(hg.block g h.lt ?_).trans h.1, (But.refl (Ge g) W).grown hg (fun k hk => .inl (Nat.le_trans (Nat.le_succ g) (h.2.lt k hk).1))⟩
  intro e
  have := (h.2.lt g e.symm).1
  omega
theorem Wk.put2 {w1 : World} {g : Nat} {v v' : Value} {st' : List Prt} (h : w1.heap[g]? = some (.cells #[v] 119 (0, 0))) (ho : prE.Own w1 (g + 1) v' st') : Wk (w1.setCell ⟨g, 0, none⟩ v') g v' st' :=
  ⟨by rw [blkset h 0 v']; rfl, ho.set (p := ⟨g, 0, none⟩) (Nat.lt_succ_self g) _⟩
theorem xcell {w W w1 : World} {g : Nat} {v : Value} {st : List Prt} {k : Int} {tx : ByteArray} (h : Wk w g v st) (hb : But No (w.alloc (.cells #[.int .i64 k, .string tx] 115)) W) (hg : W.grownBy w1 v.ownBlock) :
    w1.cell? ⟨w.heap.size, 1, none⟩ = some (.string tx) := by
  have h1 := hb.block w.heap.size (by simp) (fun c => c)
  rw [heap_alloc_new] at h1
  have h2 := hg.block w.heap.size (lt_of_block h1) (by
    intro e
    have := (h.2.lt _ e.symm).2
    omega)
  rw [cell_of_row w1 _ 1 _ _ _ (h2.trans h1)]
  rfl
theorem bools1 (w : World) (t : Bool) {b : Nat} (hb : w.heap.size = b) : ∀ i, i < 1 → (w.alloc (.cells #[.bool t] 4)).cell? ⟨b, i, none⟩ = some (.bool t) := by
  subst hb
  intro i hi
  obtain rfl : i = 0 := by omega
  rw [cell_of_row _ _ 0 _ _ _ (heap_alloc_new w _)]
  rfl
theorem bools2 (w : World) (t : Bool) {b : Nat} (hb : w.heap.size = b) : ∀ i, i < 2 → (w.alloc (.cells #[.bool t, .bool t] 4)).cell? ⟨b, i, none⟩ = some (.bool t) := by
  subst hb
  intro i hi
  rcases (by omega : i = 0 ∨ i = 1) with rfl | rfl
  · rw [cell_of_row _ _ 0 _ _ _ (heap_alloc_new w _)]
    rfl
  · rw [cell_of_row _ _ 1 _ _ _ (heap_alloc_new w _)]
    rfl
def StepPost (w : World) (g : Nat) (R : Option (List Prt)) (e : Ending) (w' : World) : Prop :=
  But (Ge g) w w' ∧ match R with
    | some st' => e = .returned (.bool true) ∧ ∃ v, Wk w' g v st'
    | none => e = .returned (.bool false)
def Mid (w : World) (g : Nat) (R : Option (List Prt)) (v5 v6 : Value) (wc : World) : Prop :=
  ∃ (bare ok : Bool) (v : Value) (st1 : List Prt), v5 = .bool bare ∧ v6 = .bool ok ∧ But (Ge g) w wc ∧ Wk wc g v st1 ∧ st1.length ≤ 1024 ∧ R = if ok && bare then some (st1 ++ [tru]) else none
set_option maxHeartbeats 16000000 in
theorem wstep0 (g : Nat) (st : List Prt) (v : Value) (k : Int) (tx : ByteArray) (w : World) (h : Wk w g v st) (hst : st.length ≤ 1024) (hsz : ∀ q ∈ st, q.text.size ≤ 1024) (htx : tx.size ≤ 9223372036854775807) (R : Option (List Prt)) (hR : stepC st k tx = R) :
    Calls Try.prog 81 #[.pointer (some ⟨g, 0, none⟩), .agg #[.int .i64 k, .string tx]] w (StepPost w g R) := by
  have htx2 : tx.size ≤ 9223372036854775807 := by omega
  have hgl := h.lt
  have HR := Lib.hid hR
  clear hR
  obtain ⟨eb, heb⟩ : ∃ eb : Bool, tx.toList.isEmpty = eb := ⟨_, rfl⟩
  have HEB := Lib.hid heb
  go_enter Try.func81, Try.ntmps81
  go_upto_block 0 with (fail)
  go_cut [5, 6] (fun v5 v6 wc => Mid w g R v5 v6 wc)
  case first =>
    have HW := Lib.hid h
    have hg0 := h.cell
    have hgf := h.free 0
    have HST := Lib.hid hsz
    clear h hsz
    rcases (by omega : k = 1 ∨ k = 2 ∨ k = 3 ∨ k = 4 ∨ k = 5 ∨ k = 6 ∨ k = 7 ∨ k = 8 ∨ k = 9 ∨ k = 10 ∨ k = 11 ∨ k = 12 ∨ k = 13 ∨ (k < 1 ∨ 13 < k)) with rfl | rfl | rfl | rfl | rfl | rfl | rfl | rfl | rfl | rfl | rfl | rfl | rfl | hk
    · have hne : ¬ w.heap.size = g := by omega
      by_cases hs1 : tx.size ≤ 1024
      · have E := Lib.hid (show R = some (st ++ [⟨false, true, tx⟩]) from by rw [← HR.out]; simp [stepC, hs1])
        have hs1' : (tx.size : Int) ≤ 1024 := by omega
        have d1 : decide ((tx.size : Int) ≤ 1024) = true := by simp; omega
        go_wp2_with fail
        go_region_law ((refine prE.step1 rfl _ _ rfl rfl (g + 1) v st rfl (HW.out.2.new ((((But.refl No w).alloc _).drew).alloc _)) (w.heap.size + 1) ⟨false, true, tx⟩ #[.bool false, .bool true, .string tx] rfl rfl (heap_alloc2_new w _ _) (by show (st.length + 1) * (24 + 1) ≤ _; omega) (by simp; omega) ?_; intro g2 c2 w1 hown hgrow; (have hq := (HW.out.new ((((But.refl No w).alloc _).drew).alloc _)).grow hgrow); (have hq1 : w1.cell? ⟨g, 0, none⟩ = some v := cell_of_row w1 g 0 _ _ _ hq.1); (have hq2 := blkfree hq.1 0); (have hx : w1.cell? ⟨w.heap.size, 1, none⟩ = some (.string tx) := xcell HW.out (((But.refl No _).drew).alloc _) hgrow); (have HQ := Lib.hid hq); (have HP := Lib.hid (Wk.put2 hq.1 hown)); clear hq hgrow hown))
        all_goals
          go_wp2_with fail
          go_ret
          refine ⟨(((((But.refl _ w).alloc _).drew).alloc _).trans HQ.out.2).setCell (p := ⟨g, 0, none⟩) (.inl (Nat.le_refl g)) _, ?_⟩
          rw [E.out]
          exact ⟨rfl, _, HP.out⟩
      · have E := Lib.hid (show R = none from by rw [← HR.out]; simp [stepC, hs1])
        have hs1' : ¬ (tx.size : Int) ≤ 1024 := by omega
        have d1 : decide ((tx.size : Int) ≤ 1024) = false := by simp; omega
        go_wp2_with fail
        go_region_law ((refine prE.step1 rfl _ _ rfl rfl (g + 1) v st rfl (HW.out.2.new ((((But.refl No w).alloc _).drew).alloc _)) (w.heap.size + 1) ⟨false, true, tx⟩ #[.bool false, .bool true, .string tx] rfl rfl (heap_alloc2_new w _ _) (by show (st.length + 1) * (24 + 1) ≤ _; omega) (by simp; omega) ?_; intro g2 c2 w1 hown hgrow; (have hq := (HW.out.new ((((But.refl No w).alloc _).drew).alloc _)).grow hgrow); (have hq1 : w1.cell? ⟨g, 0, none⟩ = some v := cell_of_row w1 g 0 _ _ _ hq.1); (have hq2 := blkfree hq.1 0); (have hx : w1.cell? ⟨w.heap.size, 1, none⟩ = some (.string tx) := xcell HW.out (((But.refl No _).drew).alloc _) hgrow); (have HQ := Lib.hid hq); (have HP := Lib.hid (Wk.put2 hq.1 hown)); clear hq hgrow hown))
        all_goals
          go_wp2_with fail
          go_ret
          refine ⟨(((((But.refl _ w).alloc _).drew).alloc _).trans HQ.out.2).setCell (p := ⟨g, 0, none⟩) (.inl (Nat.le_refl g)) _, ?_⟩
          rw [E.out]
          rfl
    · have hne : ¬ w.heap.size = g := by omega
      cases hv : variableB tx with
      | false =>
        have E := Lib.hid (show R = none from by rw [← HR.out]; simp [stepC, hv])
        have hvv := fun w2 => variable0 tx w2 htx
        rw [hv] at hvv
        have HV := Lib.hid hvv
        clear hv hvv
        go_wp2_with (first | (go_at_call 87; refine (HV.out _).mono ?_; rintro e w2 ⟨rfl, rfl⟩) | (refine prE.append1 rfl _ _ rfl rfl (g + 1) v st rfl (HW.out.2.new (((But.refl No w).alloc _).alloc _)) (w.heap.size + 1) ⟨false, false, mt⟩ #[.bool false, .bool false, .string mt] rfl rfl (heap_alloc2_new w _ _) (by show (st.length + 1) * (24 + 1) ≤ _; omega) (by simp; omega) ?_; intro g2 c2 w1 hown hgrow; (have hq := (HW.out.new (((But.refl No w).alloc _).alloc _)).grow hgrow); (have hq1 : w1.cell? ⟨g, 0, none⟩ = some v := cell_of_row w1 g 0 _ _ _ hq.1); (have hq2 := blkfree hq.1 0); (have hx : w1.cell? ⟨w.heap.size, 1, none⟩ = some (.string tx) := xcell HW.out ((But.refl No _).alloc _) hgrow); (have HQ := Lib.hid hq); (have HP := Lib.hid (Wk.put2 hq.1 hown)); clear hq hgrow hown))
        go_ret
        refine ⟨((((But.refl _ w).alloc _).alloc _).trans HQ.out.2).setCell (p := ⟨g, 0, none⟩) (.inl (Nat.le_refl g)) _, ?_⟩
        rw [E.out]
        rfl
      | true =>
        have E := Lib.hid (show R = some (st ++ [⟨false, false, mt⟩]) from by rw [← HR.out]; simp [stepC, hv])
        have hvv := fun w2 => variable0 tx w2 htx
        rw [hv] at hvv
        have HV := Lib.hid hvv
        clear hv hvv
        go_wp2_with (first | (go_at_call 87; refine (HV.out _).mono ?_; rintro e w2 ⟨rfl, rfl⟩) | (refine prE.append1 rfl _ _ rfl rfl (g + 1) v st rfl (HW.out.2.new (((But.refl No w).alloc _).alloc _)) (w.heap.size + 1) ⟨false, false, mt⟩ #[.bool false, .bool false, .string mt] rfl rfl (heap_alloc2_new w _ _) (by show (st.length + 1) * (24 + 1) ≤ _; omega) (by simp; omega) ?_; intro g2 c2 w1 hown hgrow; (have hq := (HW.out.new (((But.refl No w).alloc _).alloc _)).grow hgrow); (have hq1 : w1.cell? ⟨g, 0, none⟩ = some v := cell_of_row w1 g 0 _ _ _ hq.1); (have hq2 := blkfree hq.1 0); (have hx : w1.cell? ⟨w.heap.size, 1, none⟩ = some (.string tx) := xcell HW.out ((But.refl No _).alloc _) hgrow); (have HQ := Lib.hid hq); (have HP := Lib.hid (Wk.put2 hq.1 hown)); clear hq hgrow hown))
        go_ret
        refine ⟨((((But.refl _ w).alloc _).alloc _).trans HQ.out.2).setCell (p := ⟨g, 0, none⟩) (.inl (Nat.le_refl g)) _, ?_⟩
        rw [E.out]
        exact ⟨rfl, _, HP.out⟩
    · obtain ⟨b, hv⟩ : ∃ b, variableB tx = b := ⟨_, rfl⟩
      have E := Lib.hid (show R = if b && true then some (st ++ [tru]) else none from by rw [← HR.out]; simp [stepC, hv])
      have hvv := fun w2 => variable0 tx w2 htx
      rw [hv] at hvv
      have HV := Lib.hid hvv
      clear hv hvv
      go_wp2_with (go_at_call 87; refine (HV.out _).mono ?_; rintro e w2 ⟨rfl, rfl⟩)
      go_meet
      case rel => exact ⟨true, b, v, st, rfl, rfl, (But.refl _ w).alloc _, HW.out.new ((But.refl No w).alloc _), hst, E.out⟩
    · have E := Lib.hid (show R = if true && eb then some (st ++ [tru]) else none from by rw [← HR.out, ← HEB.out]; simp [stepC])
      go_wp2_with fail
      go_meet
      case rel => exact ⟨eb, true, v, st, rfl, rfl, (But.refl _ w).alloc _, HW.out.new ((But.refl No w).alloc _), hst, E.out⟩
    · have E := Lib.hid (show R = if true && eb then some (st ++ [tru]) else none from by rw [← HR.out, ← HEB.out]; simp [stepC])
      go_wp2_with fail
      go_meet
      case rel => exact ⟨eb, true, v, st, rfl, rfl, (But.refl _ w).alloc _, HW.out.new ((But.refl No w).alloc _), hst, E.out⟩
    · have HR2 := Lib.hid (show stepC st 6 tx = (match popC st 1 false with | some (s, l) => if true && eb then some (s ++ [tru]) else none | none => none) from by rw [← HEB.out]; rfl)
      go_wp2_with fail
      refine (takes0 g st v (w.heap.size + 1) 1 false _ (HW.out.new (((But.refl No w).alloc _).alloc _)) hst (by decide) (by decide) (by omega) (by simp) (bools1 _ false (by simp))).mono ?_
      rintro e w2 ⟨hbt, h2⟩
      rcases h2 with ⟨rfl, ⟨v2, hW2⟩, hN⟩ | ⟨st0, l, vl, v2, e1, e2, e3, rfl, hL, hW2⟩
      · have E := Lib.hid (show R = if false && eb then some (st ++ [tru]) else none from by rw [← HR.out, HR2.out, popC_none hN]; rfl)
        have HW2 := Lib.hid hW2
        have HBT := Lib.hid hbt
        clear hN hW2 hbt
        go_wp2_with fail
        go_meet
        case rel => exact ⟨eb, false, v2, st, rfl, rfl, (((But.refl _ w).alloc _).alloc _).trans_ HBT.out (fun _ _ c => c), HW2.out, hst, E.out⟩
      · have E := Lib.hid (show R = if true && eb then some (st0 ++ [tru]) else none from by rw [← HR.out, HR2.out, e1, popC_some e2 e3])
        have hl0 : st0.length ≤ 1024 := by have := congrArg List.length e1; rw [List.length_append] at this; omega
        have HW2 := Lib.hid hW2
        have HBT := Lib.hid hbt
        clear e1 e2 e3 hL hW2 hbt
        go_wp2_with fail
        go_meet
        case rel => exact ⟨eb, true, v2, st0, rfl, rfl, (((But.refl _ w).alloc _).alloc _).trans_ HBT.out (fun _ _ c => c), HW2.out, hl0, E.out⟩
    · have HR2 := Lib.hid (show stepC st 7 tx = (match popC st 2 false with | some (s, l) => if true && eb then some (s ++ [tru]) else none | none => none) from by rw [← HEB.out]; rfl)
      go_wp2_with fail
      refine (takes0 g st v (w.heap.size + 1) 2 false _ (HW.out.new (((But.refl No w).alloc _).alloc _)) hst (by decide) (by decide) (by omega) (by simp) (bools2 _ false (by simp))).mono ?_
      rintro e w2 ⟨hbt, h2⟩
      rcases h2 with ⟨rfl, ⟨v2, hW2⟩, hN⟩ | ⟨st0, l, vl, v2, e1, e2, e3, rfl, hL, hW2⟩
      · have E := Lib.hid (show R = if false && eb then some (st ++ [tru]) else none from by rw [← HR.out, HR2.out, popC_none hN]; rfl)
        have HW2 := Lib.hid hW2
        have HBT := Lib.hid hbt
        clear hN hW2 hbt
        go_wp2_with fail
        go_meet
        case rel => exact ⟨eb, false, v2, st, rfl, rfl, (((But.refl _ w).alloc _).alloc _).trans_ HBT.out (fun _ _ c => c), HW2.out, hst, E.out⟩
      · have E := Lib.hid (show R = if true && eb then some (st0 ++ [tru]) else none from by rw [← HR.out, HR2.out, e1, popC_some e2 e3])
        have hl0 : st0.length ≤ 1024 := by have := congrArg List.length e1; rw [List.length_append] at this; omega
        have HW2 := Lib.hid hW2
        have HBT := Lib.hid hbt
        clear e1 e2 e3 hL hW2 hbt
        go_wp2_with fail
        go_meet
        case rel => exact ⟨eb, true, v2, st0, rfl, rfl, (((But.refl _ w).alloc _).alloc _).trans_ HBT.out (fun _ _ c => c), HW2.out, hl0, E.out⟩
    · have HR2 := Lib.hid (show stepC st 8 tx = (match popC st 2 false with | some (s, l) => if true && eb then some (s ++ [tru]) else none | none => none) from by rw [← HEB.out]; rfl)
      go_wp2_with fail
      refine (takes0 g st v (w.heap.size + 1) 2 false _ (HW.out.new (((But.refl No w).alloc _).alloc _)) hst (by decide) (by decide) (by omega) (by simp) (bools2 _ false (by simp))).mono ?_
      rintro e w2 ⟨hbt, h2⟩
      rcases h2 with ⟨rfl, ⟨v2, hW2⟩, hN⟩ | ⟨st0, l, vl, v2, e1, e2, e3, rfl, hL, hW2⟩
      · have E := Lib.hid (show R = if false && eb then some (st ++ [tru]) else none from by rw [← HR.out, HR2.out, popC_none hN]; rfl)
        have HW2 := Lib.hid hW2
        have HBT := Lib.hid hbt
        clear hN hW2 hbt
        go_wp2_with fail
        go_meet
        case rel => exact ⟨eb, false, v2, st, rfl, rfl, (((But.refl _ w).alloc _).alloc _).trans_ HBT.out (fun _ _ c => c), HW2.out, hst, E.out⟩
      · have E := Lib.hid (show R = if true && eb then some (st0 ++ [tru]) else none from by rw [← HR.out, HR2.out, e1, popC_some e2 e3])
        have hl0 : st0.length ≤ 1024 := by have := congrArg List.length e1; rw [List.length_append] at this; omega
        have HW2 := Lib.hid hW2
        have HBT := Lib.hid hbt
        clear e1 e2 e3 hL hW2 hbt
        go_wp2_with fail
        go_meet
        case rel => exact ⟨eb, true, v2, st0, rfl, rfl, (((But.refl _ w).alloc _).alloc _).trans_ HBT.out (fun _ _ c => c), HW2.out, hl0, E.out⟩
    · have HR2 := Lib.hid (show stepC st 9 tx = (match popC st 2 false with | some (s, l) => if (match l[1]? with | some q => q.lit && (checkRes q.text).2 == 0 | none => false) && eb then some (s ++ [tru]) else none | none => none) from by rw [← HEB.out]; rfl)
      go_wp2_with fail
      refine (takes0 g st v (w.heap.size + 1) 2 false _ (HW.out.new (((But.refl No w).alloc _).alloc _)) hst (by decide) (by decide) (by omega) (by simp) (bools2 _ false (by simp))).mono ?_
      rintro e w2 ⟨hbt, h2⟩
      rcases h2 with ⟨rfl, ⟨v2, hW2⟩, hN⟩ | ⟨st0, l, vl, v2, e1, e2, e3, rfl, ⟨lb, lc, rfl, hL⟩, hW2⟩
      · have E := Lib.hid (show R = if false && eb then some (st ++ [tru]) else none from by rw [← HR.out, HR2.out, popC_none hN]; rfl)
        have HW2 := Lib.hid hW2
        have HBT := Lib.hid hbt
        clear hN hW2 hbt
        go_wp2_with fail
        go_meet
        case rel => exact ⟨eb, false, v2, st, rfl, rfl, (((But.refl _ w).alloc _).alloc _).trans_ HBT.out (fun _ _ c => c), HW2.out, hst, E.out⟩
      · have hl0 : st0.length ≤ 1024 := by have := congrArg List.length e1; rw [List.length_append] at this; omega
        have h1 : l[1]? = some l[1] := List.getElem?_eq_getElem (by omega)
        obtain ⟨q, hq⟩ : ∃ q, l[1] = q := ⟨_, rfl⟩
        rw [hq] at h1
        have hE := fun (b : Bool) (hb : (q.lit && (checkRes q.text).2 == 0) = b) => show R = if b && eb then some (st0 ++ [tru]) else none from by rw [← HR.out, HR2.out, e1, popC_some e2 e3]; simp only [h1, hb]
        have hqs : q.text.size ≤ 1024 := HST.out q (by rw [e1]; exact List.mem_append_right _ (List.mem_of_getElem? h1))
        obtain ⟨-, c2, c3⟩ := hL 1 q h1
        rw [show l.length = 2 from e2]
        have HW2 := Lib.hid hW2
        have HBT := Lib.hid hbt
        have HE := Lib.hid hE
        obtain ⟨tq, htq⟩ : ∃ tq, q.text = tq := ⟨_, rfl⟩
        obtain ⟨lq, hlq⟩ : ∃ lq, q.lit = lq := ⟨_, rfl⟩
        rw [htq] at c3 hqs
        rw [hlq] at c2
        have HTQ := Lib.hid htq
        have HLQ := Lib.hid hlq
        clear e1 e2 e3 hL hW2 hbt h1 hq hE htq hlq
        cases lq with
        | false =>
          have E := Lib.hid (HE.out false (by rw [HLQ.out]; rfl))
          go_wp2_with fail
          go_meet
          case rel => exact ⟨eb, false, v2, st0, rfl, rfl, (((But.refl _ w).alloc _).alloc _).trans_ HBT.out (fun _ _ c => c), HW2.out, hl0, E.out⟩
        | true =>
          have E := Lib.hid (HE.out ((checkRes tq).2 == 0) (by rw [HLQ.out, HTQ.out]; rfl))
          obtain ⟨ce, hce⟩ : ∃ ce : Int, (checkRes tq).2 = ce := ⟨_, rfl⟩
          have hck := fun w3 => check0 tq w3 (by omega)
          rw [hce] at hck
          have HCK := Lib.hid hck
          have HCE := Lib.hid hce
          clear hck hce
          go_wp2_with (go_at_call 89; refine (HCK.out _).mono ?_; rintro e w3 ⟨rfl, hb3⟩)
          go_meet
          case rel => exact ⟨eb, _, v2, st0, rfl, rfl, ((((But.refl _ w).alloc _).alloc _).trans_ HBT.out (fun _ _ c => c)).trans_ hb3 (fun _ _ c => c.elim), HW2.out.new hb3, hl0, by rw [E.out, HCE.out]⟩
    · have HR2 := Lib.hid (show stepC st 10 tx = (match popC st 2 false with | some (s, l) => if (match l[1]? with | some q => q.lit && (checkRes q.text).2 == 0 | none => false) && eb then some (s ++ [tru]) else none | none => none) from by rw [← HEB.out]; rfl)
      go_wp2_with fail
      refine (takes0 g st v (w.heap.size + 1) 2 false _ (HW.out.new (((But.refl No w).alloc _).alloc _)) hst (by decide) (by decide) (by omega) (by simp) (bools2 _ false (by simp))).mono ?_
      rintro e w2 ⟨hbt, h2⟩
      rcases h2 with ⟨rfl, ⟨v2, hW2⟩, hN⟩ | ⟨st0, l, vl, v2, e1, e2, e3, rfl, ⟨lb, lc, rfl, hL⟩, hW2⟩
      · have E := Lib.hid (show R = if false && eb then some (st ++ [tru]) else none from by rw [← HR.out, HR2.out, popC_none hN]; rfl)
        have HW2 := Lib.hid hW2
        have HBT := Lib.hid hbt
        clear hN hW2 hbt
        go_wp2_with fail
        go_meet
        case rel => exact ⟨eb, false, v2, st, rfl, rfl, (((But.refl _ w).alloc _).alloc _).trans_ HBT.out (fun _ _ c => c), HW2.out, hst, E.out⟩
      · have hl0 : st0.length ≤ 1024 := by have := congrArg List.length e1; rw [List.length_append] at this; omega
        have h1 : l[1]? = some l[1] := List.getElem?_eq_getElem (by omega)
        obtain ⟨q, hq⟩ : ∃ q, l[1] = q := ⟨_, rfl⟩
        rw [hq] at h1
        have hE := fun (b : Bool) (hb : (q.lit && (checkRes q.text).2 == 0) = b) => show R = if b && eb then some (st0 ++ [tru]) else none from by rw [← HR.out, HR2.out, e1, popC_some e2 e3]; simp only [h1, hb]
        have hqs : q.text.size ≤ 1024 := HST.out q (by rw [e1]; exact List.mem_append_right _ (List.mem_of_getElem? h1))
        obtain ⟨-, c2, c3⟩ := hL 1 q h1
        rw [show l.length = 2 from e2]
        have HW2 := Lib.hid hW2
        have HBT := Lib.hid hbt
        have HE := Lib.hid hE
        obtain ⟨tq, htq⟩ : ∃ tq, q.text = tq := ⟨_, rfl⟩
        obtain ⟨lq, hlq⟩ : ∃ lq, q.lit = lq := ⟨_, rfl⟩
        rw [htq] at c3 hqs
        rw [hlq] at c2
        have HTQ := Lib.hid htq
        have HLQ := Lib.hid hlq
        clear e1 e2 e3 hL hW2 hbt h1 hq hE htq hlq
        cases lq with
        | false =>
          have E := Lib.hid (HE.out false (by rw [HLQ.out]; rfl))
          go_wp2_with fail
          go_meet
          case rel => exact ⟨eb, false, v2, st0, rfl, rfl, (((But.refl _ w).alloc _).alloc _).trans_ HBT.out (fun _ _ c => c), HW2.out, hl0, E.out⟩
        | true =>
          have E := Lib.hid (HE.out ((checkRes tq).2 == 0) (by rw [HLQ.out, HTQ.out]; rfl))
          obtain ⟨ce, hce⟩ : ∃ ce : Int, (checkRes tq).2 = ce := ⟨_, rfl⟩
          have hck := fun w3 => check0 tq w3 (by omega)
          rw [hce] at hck
          have HCK := Lib.hid hck
          have HCE := Lib.hid hce
          clear hck hce
          go_wp2_with (go_at_call 89; refine (HCK.out _).mono ?_; rintro e w3 ⟨rfl, hb3⟩)
          go_meet
          case rel => exact ⟨eb, _, v2, st0, rfl, rfl, ((((But.refl _ w).alloc _).alloc _).trans_ HBT.out (fun _ _ c => c)).trans_ hb3 (fun _ _ c => c.elim), HW2.out.new hb3, hl0, by rw [E.out, HCE.out]⟩
    · have HR2 := Lib.hid (show stepC st 11 tx = (match popC st 1 true with | some (s, l) => if true && eb then some (s ++ [tru]) else none | none => none) from by rw [← HEB.out]; rfl)
      go_wp2_with fail
      refine (takes0 g st v (w.heap.size + 1) 1 true _ (HW.out.new (((But.refl No w).alloc _).alloc _)) hst (by decide) (by decide) (by omega) (by simp) (bools1 _ true (by simp))).mono ?_
      rintro e w2 ⟨hbt, h2⟩
      rcases h2 with ⟨rfl, ⟨v2, hW2⟩, hN⟩ | ⟨st0, l, vl, v2, e1, e2, e3, rfl, hL, hW2⟩
      · have E := Lib.hid (show R = if false && eb then some (st ++ [tru]) else none from by rw [← HR.out, HR2.out, popC_none hN]; rfl)
        have HW2 := Lib.hid hW2
        have HBT := Lib.hid hbt
        clear hN hW2 hbt
        go_wp2_with fail
        go_meet
        case rel => exact ⟨eb, false, v2, st, rfl, rfl, (((But.refl _ w).alloc _).alloc _).trans_ HBT.out (fun _ _ c => c), HW2.out, hst, E.out⟩
      · have E := Lib.hid (show R = if true && eb then some (st0 ++ [tru]) else none from by rw [← HR.out, HR2.out, e1, popC_some e2 e3])
        have hl0 : st0.length ≤ 1024 := by have := congrArg List.length e1; rw [List.length_append] at this; omega
        have HW2 := Lib.hid hW2
        have HBT := Lib.hid hbt
        clear e1 e2 e3 hL hW2 hbt
        go_wp2_with fail
        go_meet
        case rel => exact ⟨eb, true, v2, st0, rfl, rfl, (((But.refl _ w).alloc _).alloc _).trans_ HBT.out (fun _ _ c => c), HW2.out, hl0, E.out⟩
    · have HR2 := Lib.hid (show stepC st 12 tx = (match popC st 2 true with | some (s, l) => if true && eb then some (s ++ [tru]) else none | none => none) from by rw [← HEB.out]; rfl)
      go_wp2_with fail
      refine (takes0 g st v (w.heap.size + 1) 2 true _ (HW.out.new (((But.refl No w).alloc _).alloc _)) hst (by decide) (by decide) (by omega) (by simp) (bools2 _ true (by simp))).mono ?_
      rintro e w2 ⟨hbt, h2⟩
      rcases h2 with ⟨rfl, ⟨v2, hW2⟩, hN⟩ | ⟨st0, l, vl, v2, e1, e2, e3, rfl, hL, hW2⟩
      · have E := Lib.hid (show R = if false && eb then some (st ++ [tru]) else none from by rw [← HR.out, HR2.out, popC_none hN]; rfl)
        have HW2 := Lib.hid hW2
        have HBT := Lib.hid hbt
        clear hN hW2 hbt
        go_wp2_with fail
        go_meet
        case rel => exact ⟨eb, false, v2, st, rfl, rfl, (((But.refl _ w).alloc _).alloc _).trans_ HBT.out (fun _ _ c => c), HW2.out, hst, E.out⟩
      · have E := Lib.hid (show R = if true && eb then some (st0 ++ [tru]) else none from by rw [← HR.out, HR2.out, e1, popC_some e2 e3])
        have hl0 : st0.length ≤ 1024 := by have := congrArg List.length e1; rw [List.length_append] at this; omega
        have HW2 := Lib.hid hW2
        have HBT := Lib.hid hbt
        clear e1 e2 e3 hL hW2 hbt
        go_wp2_with fail
        go_meet
        case rel => exact ⟨eb, true, v2, st0, rfl, rfl, (((But.refl _ w).alloc _).alloc _).trans_ HBT.out (fun _ _ c => c), HW2.out, hl0, E.out⟩
    · have HR2 := Lib.hid (show stepC st 13 tx = (match popC st 2 true with | some (s, l) => if true && eb then some (s ++ [tru]) else none | none => none) from by rw [← HEB.out]; rfl)
      go_wp2_with fail
      refine (takes0 g st v (w.heap.size + 1) 2 true _ (HW.out.new (((But.refl No w).alloc _).alloc _)) hst (by decide) (by decide) (by omega) (by simp) (bools2 _ true (by simp))).mono ?_
      rintro e w2 ⟨hbt, h2⟩
      rcases h2 with ⟨rfl, ⟨v2, hW2⟩, hN⟩ | ⟨st0, l, vl, v2, e1, e2, e3, rfl, hL, hW2⟩
      · have E := Lib.hid (show R = if false && eb then some (st ++ [tru]) else none from by rw [← HR.out, HR2.out, popC_none hN]; rfl)
        have HW2 := Lib.hid hW2
        have HBT := Lib.hid hbt
        clear hN hW2 hbt
        go_wp2_with fail
        go_meet
        case rel => exact ⟨eb, false, v2, st, rfl, rfl, (((But.refl _ w).alloc _).alloc _).trans_ HBT.out (fun _ _ c => c), HW2.out, hst, E.out⟩
      · have E := Lib.hid (show R = if true && eb then some (st0 ++ [tru]) else none from by rw [← HR.out, HR2.out, e1, popC_some e2 e3])
        have hl0 : st0.length ≤ 1024 := by have := congrArg List.length e1; rw [List.length_append] at this; omega
        have HW2 := Lib.hid hW2
        have HBT := Lib.hid hbt
        clear e1 e2 e3 hL hW2 hbt
        go_wp2_with fail
        go_meet
        case rel => exact ⟨eb, true, v2, st0, rfl, rfl, (((But.refl _ w).alloc _).alloc _).trans_ HBT.out (fun _ _ c => c), HW2.out, hl0, E.out⟩
    · have k1 : (k == 1) = false := by simp; omega
      have k2 : (k == 2) = false := by simp; omega
      have k3 : (k == 3) = false := by simp; omega
      have k4 : (k == 4) = false := by simp; omega
      have k5 : (k == 5) = false := by simp; omega
      have k6 : (k == 6) = false := by simp; omega
      have k7 : (k == 7) = false := by simp; omega
      have k8 : (k == 8) = false := by simp; omega
      have k9 : (k == 9) = false := by simp; omega
      have k10 : (k == 10) = false := by simp; omega
      have k11 : (k == 11) = false := by simp; omega
      have k12 : (k == 12) = false := by simp; omega
      have k13 : (k == 13) = false := by simp; omega
      have E := Lib.hid (show R = if false && eb then some (st ++ [tru]) else none from by
        rw [← HR.out]
        unfold stepC
        simp only []
        rw [if_neg (by omega), if_neg (by omega), if_neg (by omega), if_neg (by omega), if_neg (by omega), if_neg (by omega), if_neg (by omega), if_neg (by omega), if_neg (by omega)]
        rfl)
      clear hk
      go_wp2_with fail
      go_meet
      case rel => exact ⟨eb, false, v, st, rfl, rfl, (But.refl _ w).alloc _, HW.out.new ((But.refl No w).alloc _), hst, E.out⟩
  case rest =>
    obtain ⟨bare, ok, v1, st1, rfl, rfl, hb1, hW1, hl1, hR1⟩ := hcut
    have HR1 := Lib.hid hR1
    have hc1 := hW1.cell
    have hf1 := hW1.free 0
    have hz := hW1.lt
    have HO := Lib.hid hW1.2
    have HW := Lib.hid hW1
    have HB := Lib.hid hb1
    clear hR1 hW1 hb1 h
    cases ok <;> cases bare
    all_goals
      go_wp2_with (refine prE.append1 rfl _ _ rfl rfl (g + 1) v1 st1 rfl (HO.out.alloc _) wc.heap.size tru #[.bool true, .bool false, .string mt] rfl rfl (heap_alloc_new _ _) (by show (st1.length + 1) * (24 + 1) ≤ _; omega) (by simp; omega) ?_; intro g2 c2 w1 hown hgrow; (have hq := (HW.out.new ((But.refl No wc).alloc _)).grow hgrow); (have hq1 := cell_of_row w1 g 0 _ _ _ hq.1); (have hq2 := blkfree hq.1 0); (have HQ := Lib.hid hq); (have HP := Lib.hid (Wk.put2 hq.1 hown)); clear hq hgrow hown)
      go_ret
      refine ⟨((HB.out.alloc _).trans HQ.out.2).setCell (p := ⟨g, 0, none⟩) (.inl (Nat.le_refl g)) _, ?_⟩
      rw [HR1.out]
      first | rfl | exact ⟨rfl, _, HP.out⟩
end Go.Proofs.Ytoaopjbgaehpfaa.G
end
section
/- expr.Check: the walk. -/
namespace Go.Proofs.Ytoaopjbgaehpfaa.G
open Go.RowKit
attribute [local simp, local go_sem] alloc_drewN setCell_drewN
set_option linter.unusedVariables false
set_option linter.unusedSimpArgs false
set_option maxRecDepth 100000
def runC : List (Int × ByteArray) → List Prt → Option (List Prt)
  | [], st => some st
  | q :: r, st => (stepC st q.1 q.2).bind (runC r)
def rootC : Option (List Prt) → Bool
  | some [q] => q.truth
  | _ => false
def checkB (t : List (Int × ByteArray)) : Bool := decide (t.length ≤ 1024) && rootC (runC t [])
theorem popC_parts {st s l : List Prt} {k : Nat} {t : Bool} (h : popC st k t = some (s, l)) : st = s ++ l ∧ l.length = k ∧ ∀ q ∈ l, q.truth = t := by
  unfold popC at h
  split at h
  · cases h
  · split at h
    · rename_i h1 h2
      simp only [Option.some.injEq, Prod.mk.injEq] at h
      obtain ⟨rfl, rfl⟩ := h
      refine ⟨(List.take_append_drop _ _).symm, by simp; omega, fun q hq => ?_⟩
      have := List.all_eq_true.1 h2 q hq
      simpa using this
    · cases h
/-- A step lengthens the stack by at most one, and keeps its texts short. -/
def Small (n : Nat) (st : List Prt) : Prop := st.length ≤ n ∧ ∀ q ∈ st, q.text.size ≤ 1024
theorem Small.push {n : Nat} {st : List Prt} (h : Small n st) (q : Prt) (hq : q.text.size ≤ 1024) : Small (n + 1) (st ++ [q]) := by
  refine ⟨by simp; exact h.1, fun x hx => ?_⟩
  rcases List.mem_append.1 hx with h1 | h1
  · exact h.2 x h1
  · rw [List.mem_singleton.1 h1]; exact hq
theorem Small.popped {n : Nat} {st s l : List Prt} {k : Nat} {t : Bool} (h : Small n st) (hp : popC st k t = some (s, l)) : Small n s := by
  obtain ⟨rfl, _, _⟩ := popC_parts hp
  have := h.1
  rw [List.length_append] at this
  exact ⟨by omega, fun x hx => h.2 x (List.mem_append_left _ hx)⟩
theorem mt_small : mt.size ≤ 1024 := by decide
theorem stepC_small {n : Nat} {st st' : List Prt} {k : Int} {tx : ByteArray} (h : Small n st) (hs : stepC st k tx = some st') : Small (n + 1) st' := by
  have pop : ∀ {m : Nat} {t : Bool} {ok : List Prt → Bool}, (match popC st m t with | some (s, l) => if ok l && tx.toList.isEmpty then some (s ++ [tru]) else none | none => none) = some st' → Small (n + 1) st' := by
    intro m t ok e
    split at e
    · rename_i s l hp
      split at e
      · injection e with e
        subst e
        exact (h.popped hp).push _ mt_small
      · cases e
    · cases e
  have lift : ∀ {b : Bool} {q : Prt}, (if b then some (st ++ [q]) else none) = some st' → q.text.size ≤ 1024 → Small (n + 1) st' := by
    intro b q e hq
    split at e
    · injection e with e
      subst e
      exact h.push _ hq
    · cases e
  unfold stepC at hs
  simp only [] at hs
  split at hs
  · split at hs
    · rename_i h1
      injection hs with hs
      subst hs
      exact h.push _ h1
    · cases hs
  split at hs
  · exact lift hs mt_small
  split at hs
  · exact lift hs mt_small
  split at hs
  · exact lift hs mt_small
  split at hs
  · exact pop (ok := fun _ => true) hs
  split at hs
  · exact pop (ok := fun _ => true) hs
  split at hs
  · exact pop (ok := fun l => match l[1]? with | some q => q.lit && (checkRes q.text).2 == 0 | none => false) hs
  split at hs
  · exact pop (ok := fun _ => true) hs
  split at hs
  · exact pop (ok := fun _ => true) hs
  · cases hs
/-- Steps that come in. -/
def StepsIn (w : World) (A : Option Addr) (t : List (Int × ByteArray)) : Prop := ∀ i (hi : i < t.length), ∃ ad, A = some ad ∧ w.cell? (ad.add (i * 2)) = some (.int .i64 t[i].1) ∧ w.cell? ⟨(ad.add (i * 2)).block, (ad.add (i * 2)).off + 1, none⟩ = some (.string t[i].2)
def CheckAt (w : World) (t : List (Int × ByteArray)) (F : Option (List Prt)) (gk : Nat) (v13 : Value) (wr : World) : Prop :=
  ∃ (i : Nat) (st : List Prt) (v : Value), gk = t.length - i ∧ i ≤ t.length ∧ v13 = .int .i64 (i : Int) ∧ But (Ge w.heap.size) w wr ∧ Wk wr w.heap.size v st ∧ Small i st ∧ runC (t.drop i) st = F
set_option maxHeartbeats 8000000 in
theorem exprCheck0 (A : Option Addr) (c : Nat) (t : List (Int × ByteArray)) (w : World) (hT : StepsIn w A t) (hc : t.length ≤ 9223372036854775807) (hsz : ∀ q ∈ t, q.2.size ≤ 9223372036854775807) (B : Bool) (hB : checkB t = B) :
    Calls Try.prog 75 #[.slice A t.length c] w fun e w' => e = .returned (.bool B) ∧ Below w.heap.size w w' := by
  have hc2 : t.length ≤ 9223372036854775807 := by omega
  by_cases h1 : 1024 < t.length
  · have E := Lib.hid (show B = false from by rw [← hB]; unfold checkB; rw [decide_eq_false (by omega)]; rfl)
    have h1' : (1024 : Int) < (t.length : Int) := by omega
    have d1 : decide ((1024 : Int) < (t.length : Int)) = true := by simp; omega
    go_enter Try.func75, Try.ntmps75
    go_wp2_with fail
    go_ret
    exact ⟨by rw [E.out]; rfl, Below.refl _ _⟩
  · have h1' : ¬ (1024 : Int) < (t.length : Int) := by omega
    have d1 : decide ((1024 : Int) < (t.length : Int)) = false := by simp; omega
    obtain ⟨F, hF⟩ : ∃ F, runC t [] = F := ⟨_, rfl⟩
    have HF := Lib.hid hF
    have HB := Lib.hid (show B = rootC F from by rw [← hB, ← hF]; unfold checkB; rw [decide_eq_true (by omega)]; rfl)
    have HT := Lib.hid hT
    have HS := Lib.hid hsz
    clear hF hB hT hsz
    have bel : ∀ w' : World, But (Ge w.heap.size) w w' → Below w.heap.size w w' := fun _ h => h.below (fun b hb c => Nat.not_lt.2 c hb)
    have BEL := Lib.hid bel
    clear bel
    go_enter Try.func75, Try.ntmps75
    go_wp2_with fail
    go_loopg [13] t.length (fun gk v13 wr => CheckAt w t F gk v13 wr)
    case atStart => exact ⟨0, [], .slice none 0 0, rfl, Nat.zero_le _, rfl, (But.refl _ w).alloc _, ⟨heap_alloc_new w _, El.own_nil _ _⟩, ⟨Nat.le_refl _, fun q h => by cases h⟩, HF.out⟩
    case round =>
      obtain ⟨i, st, v, hgk, hi, rfl, hb, hW, hSm, hR⟩ := hrel
      have HGK := Lib.hid hgk
      have HR := Lib.hid hR
      have HW := Lib.hid hW
      have HBt := Lib.hid hb
      have HSm := Lib.hid hSm
      have hgc := hW.cell
      clear hgk hR hW hb hSm
      by_cases hlt : i < t.length
      · obtain ⟨ad, hA, k1, k2⟩ := HT.out i hlt
        have k3 := HS.out t[i] (List.getElem_mem hlt)
        have hd : t.drop i = t[i] :: t.drop (i + 1) := List.drop_eq_getElem_cons hlt
        cases hA
        have k1' := HBt.out.cell_some k1 (Nat.not_le.2 (World.block_lt_of_cell? w _ k1))
        have k2' := HBt.out.cell_some k2 (Nat.not_le.2 (World.block_lt_of_cell? w _ k2))
        have hlt' : (i : Int) < (t.length : Int) := by omega
        have dl : decide ((i : Int) < (t.length : Int)) = true := by simp; omega
        obtain ⟨⟨kk, tx⟩, hq⟩ : ∃ q, t[i] = q := ⟨_, rfl⟩
        rw [hq] at k1' k2' k3 hd
        obtain ⟨R, hRR⟩ : ∃ R, stepC st kk tx = R := ⟨_, rfl⟩
        have HRR := Lib.hid hRR
        have HN := Lib.hid (show runC (t.drop i) st = R.bind (runC (t.drop (i + 1))) from by rw [hd, ← hRR]; rfl)
        have hst : st.length ≤ 1024 := by have := HSm.out.1; omega
        clear k1 k2 hq hd hRR
        go_wp2_with fail
        refine (wstep0 w.heap.size st v kk tx _ (HW.out.new ((But.refl No wr).alloc _)) hst HSm.out.2 k3 R HRR.out).mono ?_
        rintro e w1 ⟨hb1, h2⟩
        have HB1 := Lib.hid (((HBt.out).alloc _).trans_ hb1 (fun _ _ c => c))
        cases R with
        | none =>
          obtain rfl := h2
          have E := Lib.hid (show B = false from by rw [HB.out, ← HR.out, HN.out]; rfl)
          clear hb1
          go_wp2_with fail
          go_ret
          exact ⟨by rw [E.out]; rfl, BEL.out _ HB1.out⟩
        | some st' =>
          obtain ⟨rfl, v', hW'⟩ := h2
          have HW' := Lib.hid hW'
          clear hb1 hW'
          go_wp2_with fail
          go_roundg (t.length - (i + 1))
          case measure => rw [HGK.out]; omega
          case rel => exact ⟨i + 1, st', v', rfl, by omega, by go_num, HB1.out, HW'.out, stepC_small HSm.out HRR.out, by rw [← HR.out, HN.out]; rfl⟩
      · obtain rfl : i = t.length := by omega
        have hlt' : ¬ (t.length : Int) < (t.length : Int) := by omega
        have HFF := Lib.hid (show F = some st from by rw [← HR.out, List.drop_length]; rfl)
        by_cases h1 : st.length = 1
        · obtain ⟨q, rfl⟩ := List.length_eq_one_iff.1 h1
          have E := Lib.hid (show B = q.truth from by rw [HB.out, HFF.out]; rfl)
          have hown := HW.out.2
          obtain ⟨gs, cs, rfl, -, -, -, -⟩ := hown.lit (by simp)
          have hq : wr.cell? ⟨gs, 0, none⟩ = some (.bool q.truth) := by simpa using hown.cell 0 q rfl 0 _ rfl
          simp only [List.length_singleton] at hgc
          clear hown h1
          go_wp2_with fail
          go_ret
          exact ⟨by rw [E.out]; rfl, BEL.out _ HBt.out⟩
        · have E := Lib.hid (show B = false from by
            rw [HB.out, HFF.out]
            match st, h1 with
            | [], _ => rfl
            | [q], h => exact absurd rfl h
            | q :: q' :: r, _ => rfl)
          obtain ⟨A', c', rfl⟩ := HW.out.2.slice
          have hl1 : ((st.length : Int) == 1) = false := by simp; omega
          clear h1
          go_wp2_with fail
          go_ret
          exact ⟨by rw [E.out]; rfl, BEL.out _ HBt.out⟩
end Go.Proofs.Ytoaopjbgaehpfaa.G
end
section
/- plan's looker: a job's rules. -/
namespace Go.Proofs.Ytoaopjbgaehpfaa.G
open Go.RowKit
attribute [local simp, local go_sem] alloc_drewN setCell_drewN
set_option linter.unusedVariables false
set_option linter.unusedSimpArgs false
set_option maxRecDepth 100000
theorem StrsIn.but {w w' : World} {A : Option Addr} {t : List ByteArray} (h : StrsIn w A t) (hb : But No w w') : StrsIn w' A t := fun i hi => by
  obtain ⟨ad, hA, k⟩ := h i hi
  exact ⟨ad, hA, hb.cell_some k (fun c => c)⟩
theorem PairsIn.but {w w' : World} {A : Option Addr} {t : List (Int × Int)} (h : PairsIn w A t) (hb : But No w w') : PairsIn w' A t := fun i hi => by
  obtain ⟨ad, hA, k, k2⟩ := h i hi
  exact ⟨ad, hA, hb.cell_some k (fun c => c), hb.cell_some k2 (fun c => c)⟩
theorem stE_in {w : World} {base : Nat} {A : Option Addr} {n c : Nat} {l : List (Int × ByteArray)} (h : stE.Own w base (.slice A n c) l) : StepsIn w A l := fun i hi => by
  rcases h.form with ⟨hv, rfl⟩ | ⟨g, c2, hv, _⟩
  · exact absurd hi (Nat.not_lt_zero _)
  · injection hv with e1 e2 e3
    subst e1 e2 e3
    refine ⟨_, rfl, ?_, ?_⟩
    · have := h.cell i l[i] (List.getElem?_eq_getElem hi) 0 _ rfl
      rw [addr_add, Nat.zero_add]
      exact this
    · have := h.cell i l[i] (List.getElem?_eq_getElem hi) 1 _ rfl
      rw [addr_add, Nat.zero_add]
      exact this
/-- Rules that come in: their codes, and when. -/
def RulesIn (w : World) (A : Option Addr) (rs : List (List (Int × Int) × Int)) : Prop := ∀ i (hi : i < rs.length), ∃ ad, A = some ad ∧ ∃ A' c', w.cell? (ad.add (i * 2)) = some (.slice A' rs[i].1.length c') ∧ w.cell? ⟨(ad.add (i * 2)).block, (ad.add (i * 2)).off + 1, none⟩ = some (.int .i64 rs[i].2) ∧ PairsIn w A' rs[i].1
def ruleB (ts : List ByteArray) (r : List (Int × Int) × Int) : Bool := r.1.all (stepOk ts) && whenB r.2 && (r.1.length == 0 || checkB (r.1.map (stepOf ts)))
def rulesB (ts : List ByteArray) (rs : List (List (Int × Int) × Int)) : Bool := decide (rs.length ≤ 16) && rs.all (ruleB ts)
def RulesAt (w : World) (ts : List ByteArray) (rs : List (List (Int × Int) × Int)) (gk : Nat) (v : Value) (wr : World) : Prop := ∃ i : Nat, gk = rs.length - i ∧ i ≤ rs.length ∧ v = .int .i64 (i : Int) ∧ But No w wr ∧ (rs.take i).all (ruleB ts) = true
theorem when0q (k : Int) (b : Bool) (hb : whenB k = b) (w : World) : Calls Try.prog 73 #[.int .i64 k] w fun e w' => e = .returned (.bool b) ∧ w = w' := hb ▸ when0 k w
theorem steps_no {w : World} {ts : List ByteArray} {code : List (Int × Int)} {e : Ending} {w' : World} (hb : code.all (stepOk ts) = false) (h : LStepsPost w ts code e w') : e = .returned (.tuple #[.slice none 0 0, .bool false]) ∧ Below w.heap.size w w' := by
  rcases h.2 with ⟨_, h2⟩ | ⟨h1, _⟩
  · exact ⟨h2, h.1⟩
  · rw [hb] at h1; cases h1
theorem steps_ok {w : World} {ts : List ByteArray} {code : List (Int × Int)} {e : Ending} {w' : World} (hb : code.all (stepOk ts) = true) (h : LStepsPost w ts code e w') : ∃ A c, e = .returned (.tuple #[.slice A code.length c, .bool true]) ∧ StepsIn w' A (code.map (stepOf ts)) ∧ Below w.heap.size w w' := by
  rcases h.2 with ⟨h1, _⟩ | ⟨_, v, h2, h3⟩
  · rw [hb] at h1; cases h1
  · obtain ⟨A, c, rfl⟩ := h3.slice
    exact ⟨A, c, by rw [h2, List.length_map], stE_in h3, h.1⟩
theorem stepOf_size {ts : List ByteArray} (hts : ∀ s ∈ ts, s.size ≤ 9223372036854775807) (code : List (Int × Int)) : ∀ q ∈ code.map (stepOf ts), q.2.size ≤ 9223372036854775807 := by
  intro q hq
  obtain ⟨p, _, rfl⟩ := List.mem_map.1 hq
  unfold stepOf
  dsimp only
  split
  · unfold strAt
    rw [List.getD_eq_getElem?_getD]
    cases h : ts[p.2.toNat]? with
    | none => exact Nat.zero_le _
    | some s => exact hts s (List.mem_of_getElem? h)
  · exact Nat.zero_le _
theorem lcheck0 {ts : List ByteArray} (hts : ∀ s ∈ ts, s.size ≤ 9223372036854775807) (code : List (Int × Int)) (hc : code.length ≤ 9223372036854775807) (B : Bool) (hB : checkB (code.map (stepOf ts)) = B) (A : Option Addr) (c : Nat) (w : World) (hT : StepsIn w A (code.map (stepOf ts))) :
    Calls Try.prog 75 #[.slice A code.length c] w fun e w' => e = .returned (.bool B) ∧ Below w.heap.size w w' := by
  have h := exprCheck0 A c (code.map (stepOf ts)) w hT (by rw [List.length_map]; exact hc) (stepOf_size hts code) B hB
  rw [List.length_map] at h
  exact h
set_option maxHeartbeats 8000000 in
theorem rules0 (g : Nat) (At : Option Addr) (ct : Nat) (ts : List ByteArray) (A : Option Addr) (c : Nat) (rs : List (List (Int × Int) × Int)) (w : World) (h0 : w.cell? ⟨g, 0, none⟩ = some (.slice At ts.length ct)) (h9 : w.cell? ⟨g, 9, none⟩ = some (.slice A rs.length c))
    (hT : StrsIn w At ts) (hV : RulesIn w A rs) (hts : ∀ s ∈ ts, s.size ≤ 9223372036854775807) (htl : ts.length ≤ 9223372036854775807) (hl : rs.length ≤ 9223372036854775807) (hlr : ∀ r ∈ rs, r.1.length * 25 ≤ 140737488355328) :
    Calls Try.prog 65 #[.pointer (some ⟨g, 0, none⟩)] w fun e w' => e = .returned (.int .i64 (if rulesB ts rs = true then 0 else 172)) ∧ Below w.heap.size w w' := by
  obtain ⟨R, hR⟩ : ∃ R, (if rulesB ts rs = true then (0 : Int) else 172) = R := ⟨_, rfl⟩
  rw [hR]
  have HR := Lib.hid hR
  clear hR
  by_cases h16 : 16 < rs.length
  · have E := Lib.hid (HR.out.symm.trans (if_neg (by unfold rulesB; rw [decide_eq_false (by omega)]; simp)))
    have d : decide ((16 : Int) < (rs.length : Int)) = true := decide_eq_true (by omega)
    have d' : (16 : Int) < (rs.length : Int) := by omega
    clear hT hV hts hlr
    go_enter Try.func65, Try.ntmps65
    go_wp2_with fail
    go_ret
    exact ⟨by rw [E.out]; rfl, Below.refl _ _⟩
  have d : decide ((16 : Int) < (rs.length : Int)) = false := decide_eq_false (by omega)
  have d' : ¬ (16 : Int) < (rs.length : Int) := by omega
  have HT := Lib.hid hT
  have HV := Lib.hid hV
  have HS := Lib.hid hts
  have HL := Lib.hid hlr
  have hbad : ∀ i (hi : i < rs.length), ruleB ts rs[i] = false → (if rulesB ts rs = true then (0 : Int) else 172) = 172 := fun i hi hb => by
    rw [if_neg]
    intro ha
    unfold rulesB at ha
    rw [Bool.and_eq_true] at ha
    have := List.all_eq_true.1 ha.2 _ (List.getElem_mem hi)
    rw [hb] at this
    cases this
  have HBAD := Lib.hid hbad
  clear hT hV hts hbad hlr
  go_enter Try.func65, Try.ntmps65
  go_wp2_with fail
  go_loopg [20] rs.length (fun gk v wr => RulesAt w ts rs gk v wr)
  case atStart => exact ⟨0, rfl, Nat.zero_le _, rfl, But.refl _ _, rfl⟩
  case round =>
    obtain ⟨i, hgk, hi, rfl, hb, hall⟩ := hrel
    have HGK := Lib.hid hgk
    have HBt := Lib.hid hb
    have HA := Lib.hid hall
    have c0 := hb.cell_some h0 (fun c => c)
    have hgl : g < wr.heap.size := block_lt_of_cell c0
    have hne : ¬ wr.heap.size = g := by omega
    clear hgk hb hall
    by_cases hlt : i < rs.length
    · obtain ⟨ad, hA, A2, c2, k1, k2, hPi⟩ := HV.out i hlt
      cases hA
      have k1' := HBt.out.cell_some k1 (fun c => c)
      have k2' := HBt.out.cell_some k2 (fun c => c)
      have hlt' : (i : Int) < (rs.length : Int) := by omega
      have dl : decide ((i : Int) < (rs.length : Int)) = true := decide_eq_true hlt'
      have hb0 := HBAD.out i hlt
      have hl0 := HL.out _ (List.getElem_mem hlt)
      have ha0 : ruleB ts rs[i] = true → (rs.take (i + 1)).all (ruleB ts) = true := fun h => by rw [List.take_succ_eq_append_getElem hlt, List.all_append, HA.out]; simp [h]
      obtain ⟨⟨code, wh⟩, hp⟩ : ∃ p, rs[i] = p := ⟨_, rfl⟩
      rw [hp] at k1' k2' hb0 ha0 hPi hl0
      dsimp only at k1' k2' hPi hl0
      have HPI := Lib.hid hPi
      have HL0 := Lib.hid hl0
      have HB0 := Lib.hid hb0
      have HA0 := Lib.hid ha0
      clear hp k1 k2 hb0 ha0 hPi hl0
      have hcl : code.length ≤ 9223372036854775807 := by have := HL0.out; omega
      obtain ⟨b1, hb1⟩ : ∃ b, code.all (stepOk ts) = b := ⟨_, rfl⟩
      have HB1 := Lib.hid hb1
      clear hb1
      have HST := Lib.hid (fun (W : World) (hW : But No w W) (hc : W.cell? ⟨g, 0, none⟩ = some (.slice At ts.length ct)) => lsteps0 g At ct ts A2 c2 code W hc (HT.out.but hW) (HPI.out.but hW) htl HL0.out)
      have hrc : ∀ (w2 : World), Below (wr.alloc (.cells #[.slice A2 code.length c2, .int .i64 wh] 58)).heap.size (wr.alloc (.cells #[.slice A2 code.length c2, .int .i64 wh] 58)) w2 → w2.cell? ⟨wr.heap.size, 1, none⟩ = some (.int .i64 wh) := fun w2 h => by
        refine (h.cell (p := ⟨wr.heap.size, 1, none⟩) (by simp)).trans ?_
        go_simp
      have HRC := Lib.hid hrc
      clear hrc
      cases b1 with
      | false =>
        have E := Lib.hid (HR.out.symm.trans <| HB0.out (by unfold ruleB; dsimp only; rw [HB1.out]; rfl))
        go_wp2_with (first | (go_at_call 74; refine (HST.out _ (HBt.out.alloc _) (by go_simp)).mono ?_; intro e w2 hpost; obtain ⟨rfl, hb2⟩ := steps_no HB1.out hpost; (have HB2 := Lib.hid ((HBt.out.alloc _).trans (But.of_below (S := No) hb2))); (have hcw := HRC.out w2 hb2); clear hpost hb2))
        go_ret
        exact ⟨by rw [E.out]; rfl, HB2.out.belowNo⟩
      | true =>
      obtain ⟨b3, hb3⟩ : ∃ b, whenB wh = b := ⟨_, rfl⟩
      have HB3 := Lib.hid hb3
      clear hb3
      cases b3 with
      | false =>
        have E := Lib.hid (HR.out.symm.trans <| HB0.out (by unfold ruleB; dsimp only; rw [HB1.out, HB3.out]; rfl))
        go_wp2_with (first | (go_at_call 74; refine (HST.out _ (HBt.out.alloc _) (by go_simp)).mono ?_; intro e w2 hpost; obtain ⟨A3, c3, rfl, hin, hb2⟩ := steps_ok HB1.out hpost; (have HB2 := Lib.hid ((HBt.out.alloc _).trans (But.of_below (S := No) hb2))); (have hcw := HRC.out w2 hb2); (have HIN := Lib.hid hin); clear hpost hb2 hin) | (go_at_call 73; refine (when0q wh false HB3.out _).mono ?_; rintro e w3 ⟨rfl, rfl⟩))
        go_ret
        exact ⟨by rw [E.out]; rfl, HB2.out.belowNo⟩
      | true =>
      by_cases hz : code.length = 0
      · have E := Lib.hid (show ruleB ts (code, wh) = true from by unfold ruleB; dsimp only; rw [HB1.out, HB3.out, hz]; rfl)
        have hzl : ¬ (0 : Int) < (code.length : Int) := by omega
        have hzd : decide ((0 : Int) < (code.length : Int)) = false := decide_eq_false hzl
        clear hz
        go_wp2_with (first | (go_at_call 74; refine (HST.out _ (HBt.out.alloc _) (by go_simp)).mono ?_; intro e w2 hpost; obtain ⟨A3, c3, rfl, hin, hb2⟩ := steps_ok HB1.out hpost; (have HB2 := Lib.hid ((HBt.out.alloc _).trans (But.of_below (S := No) hb2))); (have hcw := HRC.out w2 hb2); (have HIN := Lib.hid hin); clear hpost hb2 hin) | (go_at_call 73; refine (when0q wh true HB3.out _).mono ?_; rintro e w3 ⟨rfl, rfl⟩))
        go_roundg (rs.length - (i + 1))
        case measure => rw [HGK.out]; omega
        case rel => exact ⟨i + 1, rfl, by omega, by go_num, HB2.out, HA0.out E.out⟩
      have hzl : (0 : Int) < (code.length : Int) := by omega
      have hzd : decide ((0 : Int) < (code.length : Int)) = true := decide_eq_true hzl
      have hzb : (code.length == 0) = false := by simpa using hz
      clear hz
      obtain ⟨b4, hb4⟩ : ∃ b, checkB (code.map (stepOf ts)) = b := ⟨_, rfl⟩
      have HB4 := Lib.hid hb4
      clear hb4
      cases b4 with
      | false =>
        have E := Lib.hid (HR.out.symm.trans <| HB0.out (by unfold ruleB; dsimp only; rw [HB1.out, HB3.out, HB4.out, hzb]; rfl))
        clear hzb
        go_wp2_with (first | (go_at_call 74; refine (HST.out _ (HBt.out.alloc _) (by go_simp)).mono ?_; intro e w2 hpost; obtain ⟨A3, c3, rfl, hin, hb2⟩ := steps_ok HB1.out hpost; (have HB2 := Lib.hid ((HBt.out.alloc _).trans (But.of_below (S := No) hb2))); (have hcw := HRC.out w2 hb2); (have HIN := Lib.hid hin); clear hpost hb2 hin) | (go_at_call 73; refine (when0q wh true HB3.out _).mono ?_; rintro e w3 ⟨rfl, rfl⟩) | (go_at_call 75; refine (lcheck0 HS.out code hcl false HB4.out _ _ _ HIN.out).mono ?_; rintro e w4 ⟨rfl, hb4⟩; (have HB5 := Lib.hid (HB2.out.trans (But.of_below (S := No) hb4))); clear hb4))
        go_ret
        exact ⟨by rw [E.out]; rfl, HB5.out.belowNo⟩
      | true =>
        have E := Lib.hid (show ruleB ts (code, wh) = true from by unfold ruleB; dsimp only; rw [HB1.out, HB3.out, HB4.out, hzb]; rfl)
        clear hzb
        go_wp2_with (first | (go_at_call 74; refine (HST.out _ (HBt.out.alloc _) (by go_simp)).mono ?_; intro e w2 hpost; obtain ⟨A3, c3, rfl, hin, hb2⟩ := steps_ok HB1.out hpost; (have HB2 := Lib.hid ((HBt.out.alloc _).trans (But.of_below (S := No) hb2))); (have hcw := HRC.out w2 hb2); (have HIN := Lib.hid hin); clear hpost hb2 hin) | (go_at_call 73; refine (when0q wh true HB3.out _).mono ?_; rintro e w3 ⟨rfl, rfl⟩) | (go_at_call 75; refine (lcheck0 HS.out code hcl true HB4.out _ _ _ HIN.out).mono ?_; rintro e w4 ⟨rfl, hb4⟩; (have HB5 := Lib.hid (HB2.out.trans (But.of_below (S := No) hb4))); clear hb4))
        go_roundg (rs.length - (i + 1))
        case measure => rw [HGK.out]; omega
        case rel => exact ⟨i + 1, rfl, by omega, by go_num, HB5.out, HA0.out E.out⟩
    · obtain rfl : i = rs.length := by omega
      have hlt' : ¬ (rs.length : Int) < (rs.length : Int) := by omega
      have ha := HA.out
      rw [List.take_length] at ha
      have E := Lib.hid (HR.out.symm.trans <| show (if rulesB ts rs = true then (0 : Int) else 172) = 0 from if_pos (by unfold rulesB; rw [decide_eq_true (by omega), ha]; rfl))
      clear ha
      go_wp2_with fail
      go_ret
      exact ⟨by rw [E.out]; rfl, HBt.out.belowNo⟩
end Go.Proofs.Ytoaopjbgaehpfaa.G
end
section
/- A map of numbers that the call owns: its laws at an operation of a region that draws. -/
namespace Go.Proofs.Ytoaopjbgaehpfaa.G
open Go.RowKit Go.Maps
set_option linter.unusedVariables false
theorem mapLook {H : Type} {P : Program} (w : World) {o : Oper} {a : Act} {K' : Act → World → Prop} {Q : Exit → Act → World → Prop}
    (m x : Operand) (t : TypeId) (hop : o.op = Op.lookup t m x false) (d : Option Nat) (hd : o.dst = d)
    (k e : TypeId) (q : IntKind) (K : Keyed P k) (ht : P.underlying t = some (.map k e)) (he : P.underlying e = some (.int q)) (hz : (zeroValue e).run P w = .ok (.int q 0) w) (b n : Nat) (D : DataW H)
    (hm : a.eval m = .map (some b)) (hown : w.ownsMap P k (plainElem P e) b n D) (key : Value) (kl : Lit) (hx : a.eval x = key) (hkey : keyOf P k key = some kl)
    (hK : ∀ c : Int, D.atKey kl (.lit (.int q 0)) = .lit (.int q c) → (Lit.int q c).wf = true → K' (a.put d (.int q c)) w) :
    Oper.wp P o a w K' Q := by
  subst hd
  obtain ⟨c, hrun, hat, hwc⟩ := hown.lookup_int K ht he hz hkey
  unfold Oper.wp
  simp [execOp, hop, hm, hx, hrun, Result.andThen]
  exact hK c hat hwc
theorem mapPut {H : Type} {P : Program} (w : World) {o : Oper} {a : Act} {K' : Act → World → Prop} {Q : Exit → Act → World → Prop}
    (m x v : Operand) (t : TypeId) (hop : o.op = Op.mapUpdate t m x v) (dd : Option Nat) (hd : o.dst = dd)
    (k e : TypeId) (K : Keyed P k) (ht : P.underlying t = some (.map k e)) (R : Value → Option (DataW H × List MemPlace)) (b n : Nat) (D : DataW H)
    (hm : a.eval m = .map (some b)) (hown : w.ownsMap P k R b n D) (hn : n < maxLen) (key val : Value) (kl : Lit) (hx : a.eval x = key) (hv : a.eval v = val) (hkey : keyOf P k key = some kl)
    (d : DataW H) (ps : List MemPlace) (hval : R val = some (d, ps))
    (hK : ∀ w', w'.ownsMap P k R b (n + 1) (D.put kl d) → w.grownBy w' (some b) → K' (a.put dd undef) w') :
    Oper.wp P o a w K' Q := by
  subst hd
  obtain ⟨w', hrun, r1, r2⟩ := hown.update K ht hn hkey hval
  unfold Oper.wp
  simp [execOp, hop, hm, hx, hv, hrun, Result.andThen]
  exact hK w' r1 r2
/-- The same at an operation of a quiet region. -/
theorem mapLookQ {H : Type} {P : Program} (w : World) {o : Oper} {a : Act} {K' : Act → Prop}
    (m x : Operand) (t : TypeId) (hop : o.op = Op.lookup t m x false) (dd : Option Nat) (hd : o.dst = dd)
    (k e : TypeId) (q : IntKind) (K : Keyed P k) (ht : P.underlying t = some (.map k e)) (he : P.underlying e = some (.int q)) (hz : ∀ n, (zeroValue e).run P (w.drewN n) = .ok (.int q 0) (w.drewN n)) (b n : Nat) (D : DataW H)
    (hm : a.eval m = .map (some b)) (hown : w.ownsMap P k (plainElem P e) b n D) (key : Value) (kl : Lit) (hx : a.eval x = key) (hkey : keyOf P k key = some kl) (c : Int) (hat : D.atKey kl (.lit (.int q 0)) = .lit (.int q c))
    (hK : K' (a.put dd (.int q c))) :
    Oper.quiet P o a (fun w' => ∃ n, w' = w.drewN n) K' := by
  subst hd
  refine ⟨.int q c, ?_, hK⟩
  rintro w' ⟨n, rfl⟩
  have hown' : (w.drewN n).ownsMap P k (plainElem P e) b _ D := hown
  obtain ⟨c', hrun, hat', hwc⟩ := hown'.lookup_int K ht he (hz n) hkey
  rw [hat] at hat'
  injection hat' with hat'
  injection hat' with _ hat'
  subst hat'
  unfold Oper.quietAt
  simp [execOp, hop, hm, hx, hrun, Oper.quietUpon]
/- Quiet regions, one operation a time, the rest out of sight (a goal that says wpQuiet is laid open by each 'refine', and then the guards are worked out: half a minute a step). -/
structure Veil (p : Prop) : Prop where
  out : p
theorem hq_run {P : Program} {ops : Array Oper} {C : World → Prop} {Q : Act → Prop} {a : Act} {o : Oper} {rest : List Oper} (hw : Region.wanted o (yielded ops a.tmps) = true)
    (h : ∀ K : Act → Prop, (∀ a, Veil (wpQuiet P ops C Q rest a) → K a) → o.quiet P a C K) : Veil (wpQuiet P ops C Q (o :: rest) a) :=
  .mk (wpQuiet_step fun K hK => by rw [if_pos hw]; exact h K fun a ha => hK a ha.out)
theorem hq_skip {P : Program} {ops : Array Oper} {C : World → Prop} {Q : Act → Prop} {a : Act} {o : Oper} {rest : List Oper} (hw : Region.wanted o (yielded ops a.tmps) = false)
    (h : Veil (wpQuiet P ops C Q rest (a.put o.dst undef))) : Veil (wpQuiet P ops C Q (o :: rest) a) :=
  .mk (wpQuiet_step fun K hK => by rw [if_neg (ne_true_of_eq_false hw)]; exact hK _ h.out)
theorem hq_nil {P : Program} {ops : Array Oper} {C : World → Prop} {Q : Act → Prop} {a : Act} (h : Q a) : Veil (wpQuiet P ops C Q [] a) := .mk (wpQuiet_nil h)
theorem wp_region_hq {P : Program} {id : Nat} {Q : Exit → Act → World → Prop} {a : Act} {w : World} {l : List Oper} (hm : P.follows .mixedOrders = true) (hB : Region.lexB .any l.toArray = true)
    (h : Veil (wpQuiet P l.toArray (fun w' => ∃ n, w' = w.drewN n) (fun a' => ∀ w', (∃ n, w' = w.drewN n) → Q .normal a' w') l a)) : (Code.region id l.toArray true).wp P Q a w := wp_region_quiet_lit hm hB h.out
end Go.Proofs.Ytoaopjbgaehpfaa.G
end
section
/- The names that stand already: a map that counts. -/
namespace Go.Proofs.Ytoaopjbgaehpfaa.G
open Go.RowKit Go.Maps
set_option linter.unusedVariables false
theorem law3J : Keyed Try.prog 3 := int_keyed Try.underlying3
theorem wfI (n : Int) (h : -9223372036854775808 ≤ n ∧ n ≤ 9223372036854775807) : (Lit.int .i64 n).wf = true := by
  have h1 : IntKind.i64.min = -9223372036854775808 := by decide
  have h2 : IntKind.i64.max = 9223372036854775807 := by decide
  simp only [Lit.wf, h1, h2, Bool.and_eq_true, decide_eq_true_eq]
  exact h
/-- The map at block b counts the names seen. -/
def NamesM (w : World) (b : Nat) (seen : List Int) : Prop :=
  ∃ D : DataW Nat, w.ownsMap Try.prog 3 (plainElem Try.prog 3) b seen.length D ∧ IsMap D ∧ ∀ k : Int, D.atKey (.int .i64 k) (.lit (.int .i64 0)) = .lit (.int .i64 (seen.count k : Nat))
theorem NamesM.made (w : World) : NamesM (w.alloc (.map #[] 0)) w.heap.size [] := ⟨.map [], World.ownsMap_made _ _ _ _, isMap_empty, fun k => rfl⟩
theorem NamesM.at {seen : List Int} {D : DataW Nat} {k c : Int} (h : ∀ k : Int, D.atKey (.int .i64 k) (.lit (.int .i64 0)) = .lit (.int .i64 (seen.count k : Nat))) (hat : D.atKey (.int .i64 k) (.lit (.int .i64 0)) = .lit (.int .i64 c)) : c = (seen.count k : Nat) := by
  rw [h k] at hat
  injection hat with hat
  injection hat with _ hat
  exact hat.symm
theorem NamesM.put {w' : World} {b : Nat} {seen : List Int} {D : DataW Nat} {k c : Int} (hm : IsMap D) (h : ∀ k : Int, D.atKey (.int .i64 k) (.lit (.int .i64 0)) = .lit (.int .i64 (seen.count k : Nat)))
    (hc : c = (seen.count k : Nat) + 1) (ho : w'.ownsMap Try.prog 3 (plainElem Try.prog 3) b (seen.length + 1) (D.put (.int .i64 k) (.lit (.int .i64 c)))) : NamesM w' b (k :: seen) := by
  refine ⟨_, ho, ?_, fun z => ?_⟩
  · obtain ⟨es, rfl⟩ := hm
    exact ⟨_, rfl⟩
  · by_cases e : z = k
    · subst e
      rw [atKey_put_same hm (k := .int .i64 z) (by exact trivial), List.count_cons_self, hc]
      rfl
    · rw [atKey_put_other (by intro hh; injection hh with _ hh; exact e hh), h z, List.count_cons_of_ne (fun hh => e hh.symm)]
end Go.Proofs.Ytoaopjbgaehpfaa.G
end
