/- The reader's steps: the walk. -/
import Derived.Test.YtinhlaiogkmkfaaQGf
namespace Go.Proofs.Ytinhlaiogkmkfaa.G
open Go.RowKit
attribute [local simp, local go_sem] alloc_drewN setCell_drewN
set_option linter.unusedVariables false
set_option linter.unusedSimpArgs false
set_option maxRecDepth 100000
theorem infoStep : (Try.prog.info? 151).map (fun i => (i.zero, i.size, i.bytes)) = some (some (.agg #[.bool false, .nilFunc]), 2, 16) := by kernel_rfl
/-- A step: may it match many bytes; which byte it fits. -/
structure Stp where
  many : Bool
  fits : Int → Bool
/-- .. and the function that it holds. -/
structure Stq where
  s : Stp
  fn : Nat
  cp : Array Value
def stqCells (l : List Stq) : List Value := l.flatMap fun q => [.bool q.s.many, .func (.func q.fn) #[] q.cp]
theorem stqCells_append (l m : List Stq) : stqCells (l ++ m) = stqCells l ++ stqCells m := by simp [stqCells]
theorem stqCells_at (l : List Stq) : ∀ i q, l[i]? = some q → (stqCells l)[i * 2]? = some (.bool q.s.many) ∧ (stqCells l)[i * 2 + 1]? = some (.func (.func q.fn) #[] q.cp) := by
  induction l with
  | nil => intro i q h; simp at h
  | cons s l ih =>
    intro i q h
    cases i with
    | zero => simp at h; subst h; simp [stqCells]
    | succ i =>
      have := ih i q (by simpa using h)
      simp only [stqCells, List.flatMap_cons] at this ⊢
      rw [show (i + 1) * 2 = i * 2 + 2 from by omega]
      simpa using this
/-- The slice v holds the steps l. -/
def IsSteps (w : World) (base : Nat) (v : Value) (l : List Stq) : Prop := w.ownsRow base 151 2 v l.length (stqCells l) ∧ ∀ q ∈ l, Fits w (.func (.func q.fn) #[] q.cp) q.s.fits
theorem classGo_ge0 (p : ByteArray) (fr : Nat) : ∀ (n x : Nat) (y : Int) (l : List (Int × Int)), p.size - x ≤ n → x ≤ (classGo p fr x y l).1 := by
  intro n
  induction n with
  | zero =>
    intro x y l h
    rw [classGo, dif_neg (by omega)]
    exact Nat.le_refl _
  | succ n ih =>
    intro x y l h
    rw [classGo]
    have h1 := byteA_lt p x
    have h2 := byteA_lt p (byteA p x + 1)
    split
    · split
      · exact Nat.le_trans (by omega) (ih _ _ _ (by omega))
      · exact Nat.le_trans (by omega) (ih _ _ _ (by omega))
    · exact Nat.le_refl _
theorem classGo_ge (p : ByteArray) (fr : Nat) (x : Nat) (y : Int) (l : List (Int × Int)) : x ≤ (classGo p fr x y l).1 := classGo_ge0 p fr _ x y l (Nat.le_refl _)
theorem classGo_le (p : ByteArray) (fr : Nat) : ∀ (n x : Nat) (y : Int) (l : List (Int × Int)), p.size - x ≤ n → x ≤ p.size → (classGo p fr x y l).1 ≤ p.size := by
  intro n
  induction n with
  | zero =>
    intro x y l h hx
    rw [classGo, dif_neg (by omega)]
    exact hx
  | succ n ih =>
    intro x y l h hx
    rw [classGo]
    split
    · rename_i hc
      have h1 := byteA_lt p x
      have h2 := byteA_lt p (byteA p x + 1)
      have h3 := byteA_le p x hc.1
      split
      · rename_i hd
        exact ih _ _ _ (by omega) (byteA_le p _ hd.1)
      · exact ih _ _ _ (by omega) h3
    · exact hx
/-- The brackets that stand at place x: their ranges. -/
def clsF (p : ByteArray) (x : Nat) (y : Int) : Nat × Int × List (Int × Int) := classGo p x (if notAt p (x + 1) then x + 2 else x + 1) y []
theorem clsF_gt (p : ByteArray) (x : Nat) (y : Int) : x + 1 ≤ (clsF p x y).1 := Nat.le_trans (by split <;> omega) (classGo_ge p x _ y [])
theorem clsF_le (p : ByteArray) (x : Nat) (y : Int) (h : x < p.size) : (clsF p x y).1 ≤ p.size := by
  refine classGo_le p x _ _ y [] (Nat.le_refl _) ?_
  split
  · rename_i hn
    exact notAt_lt hn
  · exact h
/-- A pattern's steps from place x on: the first wrong place, the steps. -/
def stepsGo (p : ByteArray) (x : Nat) (y : Int) (l : List Stp) : Int × List Stp :=
  if h : x < p.size then
    if bt p x = 42 then
      if x + 1 < p.size ∧ bt p (x + 1) = 42 then stepsGo p (x + 2) y (l ++ [⟨true, fun _ => true⟩])
      else stepsGo p (x + 1) y (l ++ [⟨true, fun c => c != 47⟩])
    else if bt p x = 63 then stepsGo p (x + 1) y (l ++ [⟨false, fun c => c != 47⟩])
    else if bt p x = 91 then
      stepsGo p ((clsF p x y).1 + 1) (classBad p x (clsF p x y)) (l ++ [⟨false, classL (clsF p x y).2.2 (notAt p (x + 1))⟩])
    else stepsGo p (byteA p x) (byteB p x y) (l ++ [⟨false, fun c => c == byteV p x⟩])
  else (y, l)
termination_by p.size - x
decreasing_by
  all_goals
    have h1 := byteA_lt p x
    have h2 := clsF_gt p x y
    omega
theorem IsSteps.move {w w' : World} {S : Nat → Prop} {base : Nat} {v : Value} {l : List Stq} (h : IsSteps w base v l) (hb : But S w w') (hS : ∀ k, k < w.heap.size → S k → Sty w k)
    (hn : ∀ k, base ≤ k → ¬ S k) : IsSteps w' base v l :=
  ⟨own_but h.1 hb (fun k h1 _ => hn k h1), fun q hq => (h.2 q hq).later hb hS⟩
theorem rd_sty {w : World} {g : Nat} {p : ByteArray} {a b : Int} (h : Rd w g p a b) : ∀ k, k < w.heap.size → One g k → Sty w k := fun k _ e => .inr ⟨_, _, e ▸ h⟩
theorem no_sty {w : World} : ∀ k, k < w.heap.size → No k → Sty w k := fun _ _ h => h.elim
theorem own_typ {w : World} {base : Nat} {e : TypeId} {size n : Nat} {v : Value} {xs : List Value} (h : w.ownsRow base e size v n xs) (k : Nat) (hk : v.ownBlock = some k) : Typ w k e := by
  rcases h.2 with ⟨rfl, _⟩ | ⟨g, cap, cur, rfl, hg, hh, r⟩
  · simp [Value.ownBlock] at hk
  · have : g = k := by simpa [Value.ownBlock] using hk
    subst this
    exact ⟨_, _, hh⟩
theorem IsSteps.push {W w1 : World} {base : Nat} {v v' : Value} {l : List Stq} (h : IsSteps W base v l) (q : Stq) (hq : Fits W (.func (.func q.fn) #[] q.cp) q.s.fits)
    (ho : w1.ownsRow base 151 2 v' (l.length + 1) (stqCells l ++ [.bool q.s.many, .func (.func q.fn) #[] q.cp])) (hg : W.grownBy w1 v.ownBlock) : IsSteps w1 base v' (l ++ [q]) := by
  have hb : But (fun k => some k = v.ownBlock) W w1 := ⟨hg.os, hg.tape, hg.output, hg.size, fun k hk hn => hg.block k hk hn⟩
  have hS : ∀ k, k < W.heap.size → some k = v.ownBlock → Sty W k := fun k _ e => .inl (own_typ h.1 k e.symm)
  refine ⟨?_, fun q' hq' => ?_⟩
  · rw [List.length_append, stqCells_append]
    exact ho
  · rcases List.mem_append.1 hq' with h1 | h1
    · exact (h.2 q' h1).later hb hS
    · rw [List.mem_singleton.1 h1]
      exact hq.later hb hS
theorem own_drewN {w : World} {base : Nat} {e : TypeId} {size n m : Nat} {v : Value} {xs : List Value} (h : w.ownsRow base e size v n xs) : (w.drewN m).ownsRow base e size v n xs := h
theorem IsSteps.drewN {w : World} {base : Nat} {v : Value} {l : List Stq} (h : IsSteps w base v l) (n : Nat) : IsSteps (w.drewN n) base v l := h.move ((But.refl No w).drewN n) no_sty (fun _ _ h => h)
theorem IsSteps.alloc {w : World} {base : Nat} {v : Value} {l : List Stq} (h : IsSteps w base v l) (o : Obj) : IsSteps (w.alloc o) base v l := h.move ((But.refl No w).alloc o) no_sty (fun _ _ h => h)
def StepsAt (w : World) (g : Nat) (p : ByteArray) (G : Int × List Stp) (k : Nat) (v : Value) (wr : World) : Prop :=
  ∃ (x : Nat) (y : Int) (l : List Stq), k = p.size + 1 - x ∧ x ≤ p.size + 1 ∧ l.length ≤ x ∧ Rd wr g p x y ∧ But (One g) w wr ∧ IsSteps wr w.heap.size v l ∧ stepsGo p x y (l.map Stq.s) = G
def StepsPost (w : World) (g : Nat) (p : ByteArray) (G : Int × List Stp) (e : Ending) (w' : World) : Prop :=
  ∃ v l x, e = .returned v ∧ But (One g) w w' ∧ Rd w' g p x G.1 ∧ IsSteps w' w.heap.size v l ∧ l.map Stq.s = G.2 ∧ l.length ≤ p.size + 1
set_option maxHeartbeats 8000000 in
theorem steps0 (g : Nat) (p : ByteArray) (w : World) (h : Rd w g p (0 : Nat) (-1)) (hp : p.size ≤ 256) (G : Int × List Stp) (hG : stepsGo p 0 (-1) [] = G) :
    Calls Try.prog 102 #[.pointer (some ⟨g, 0, none⟩)] w (StepsPost w g p G) := by
  have HG := Lib.hid hG
  clear hG
  have hp' : p.size ≤ 1000 := by omega
  have hg := h.lt
  obtain ⟨i0, hi0, hz0, hz1, hz2⟩ := info_parts infoStep
  go_enter Try.func102, Try.ntmps102
  go_wp2_with fail
  go_loopg [3] (p.size + 1) (fun k v wr => StepsAt w g p G k v wr)
  case atStart => exact ⟨0, -1, [], rfl, Nat.zero_le _, Nat.zero_le _, h, But.refl _ _, ⟨World.ownsRow_nil _ _ _ _, fun q hq => by cases hq⟩, HG.out⟩
  case round =>
    obtain ⟨x, y, l, hkx, hxle, hll, hr, hb, hI, hGo⟩ := hrel
    have HKX := Lib.hid hkx
    have HGo := Lib.hid hGo
    clear hkx hGo HG h
    obtain ⟨A0, c0, rfl⟩ := own_slice hI.1
    rcases Nat.lt_or_ge x p.size with hlt | hge
    · skip
      have h0 := hr.c0
      have h1 := hr.c1
      have f1 := hr.fr 1
      have hbt := bt_at p x hlt
      by_cases c42 : bt p x = 42
      · have c42b : (bt p x == 42) = true := beq_iff_eq.2 c42
        by_cases c1 : x + 1 < p.size
        · have hbt1 := bt_at p (x + 1) c1
          have d1 : decide ((x : Int) + 1 < (p.size : Int)) = true := by simp; omega
          by_cases c2 : bt p (x + 1) = 42
          · have c2b : (bt p (x + 1) == 42) = true := beq_iff_eq.2 c2
            have E := Lib.hid (show stepsGo p x y (l.map Stq.s) = stepsGo p (x + 2) y (l.map Stq.s ++ [⟨true, fun _ => true⟩]) from by rw [stepsGo, dif_pos hlt, if_pos c42, if_pos ⟨c1, c2⟩])
            clear c42 c2
            have hr1 := hr.set1 ((x + 2 : Nat) : Int)
            have hI1 : IsSteps (wr.setCell ⟨g, 1, none⟩ (.int .i64 ((x + 2 : Nat) : Int))) _ _ _ := hI.move ((But.refl (One g) wr).set1 1 _) (rd_sty hr) (fun k hk e => by unfold One at e; omega)
            have hbw := hb.set1 1 (.int .i64 ((x + 2 : Nat) : Int))
            go_wp2_with fail
            refine (end_no g p x y _ hr hp' (by omega)).mono ?_
            rintro e w1 ⟨rfl, n, rfl⟩
            go_wp2_with fail
            go_quiet (fail)
            go_wp2_with fail
            go_quiet (fail)
            go_wp2_with (at_builtin; refine wpList_append_own _ rfl _ _ 111 rfl w.heap.size 151 i0 (.agg #[.bool false, .nilFunc]) 2 16 Try.underlying111 hi0 hz0 hz1 hz2 rfl (by decide) _ _ _ rfl (by repeat (first | exact hI1.1 | apply own_drewN | apply World.ownsRow.alloc)) ⟨wr.heap.size, 0, none⟩ 1 1 [.bool true, .func (.func 114) #[] #[]] rfl rfl ?c1 ?c2 ?c3 ?c4 ?c5 ?_)
            case c1 =>
              intro j u hj
              rcases j with _ | _ | j <;> simp at hj <;> subst hj <;> simp [Addr.add] <;> go_simp
            case c2 =>
              intro u hu
              simp at hu
              rcases hu with rfl | rfl <;> rfl
            case c3 => unfold maxLen; omega
            case c4 => omega
            case c5 => simp; have := hbw.size; (try simp at this); omega
            intro v' w1 hown' hgrow _
            have q0 : Rd w1 g p (x + 2 : Nat) y := by
              refine blk_grown (base := w.heap.size) (e := 151) (size := 2) (n := l.length) (xs := stqCells l) ?_ hgrow ?_ hg
              · show Rd _ g p _ _
                repeat (first | exact hr1 | apply Rd.drewN | apply Rd.alloc)
              · repeat (first | exact hI1.1 | apply own_drewN | apply World.ownsRow.alloc)
            have q3 : But (One g) w w1 := by
              refine But.grow (base := w.heap.size) (e := 151) (size := 2) (n := l.length) (xs := stqCells l) ?_ hgrow ?_ (Nat.le_refl _)
              · repeat (first | exact hbw | apply But.drewN | apply But.alloc)
              · repeat (first | exact hI1.1 | apply own_drewN | apply World.ownsRow.alloc)
            have q4 : IsSteps w1 w.heap.size v' (l ++ [⟨⟨true, fun _ => true⟩, 114, #[]⟩]) := by
              refine IsSteps.push ?_ _ ?_ hown' hgrow
              · repeat (first | exact hI1 | apply IsSteps.drewN | apply IsSteps.alloc)
              · exact all_fits _
            clear hgrow hown' hI1 hI hbw
            go_wp2_with fail
            go_roundg (p.size + 1 - (x + 2))
            case measure => rw [HKX.out]; omega
            case rel =>
              refine ⟨x + 2, y, _, rfl, ?_, ?_, q0, q3, q4, ?_⟩
              · omega
              · simp; omega
              · rw [← HGo.out, E.out, List.map_append]
                rfl

          · have c2b : (bt p (x + 1) == 42) = false := beq_eq_false_iff_ne.2 c2
            have c1' : ¬ (x + 1 < p.size ∧ bt p (x + 1) = 42) := fun h => c2 h.2
            have E := Lib.hid (show stepsGo p x y (l.map Stq.s) = stepsGo p (x + 1) y (l.map Stq.s ++ [⟨true, fun c => c != 47⟩]) from by rw [stepsGo, dif_pos hlt, if_pos c42, if_neg c1'])
            clear c42 c2 c1'
            have hr1 := hr.set1 ((x + 1 : Nat) : Int)
            have hI1 : IsSteps (wr.setCell ⟨g, 1, none⟩ (.int .i64 ((x + 1 : Nat) : Int))) _ _ _ := hI.move ((But.refl (One g) wr).set1 1 _) (rd_sty hr) (fun k hk e => by unfold One at e; omega)
            have hbw := hb.set1 1 (.int .i64 ((x + 1 : Nat) : Int))
            go_wp2_with fail
            refine (end_no g p x y _ hr hp' (by omega)).mono ?_
            rintro e w1 ⟨rfl, n, rfl⟩
            go_wp2_with fail
            go_quiet (fail)
            go_wp2_with fail
            go_quiet (fail)
            go_wp2_with (at_builtin; refine wpList_append_own _ rfl _ _ 111 rfl w.heap.size 151 i0 (.agg #[.bool false, .nilFunc]) 2 16 Try.underlying111 hi0 hz0 hz1 hz2 rfl (by decide) _ _ _ rfl (by repeat (first | exact hI1.1 | apply own_drewN | apply World.ownsRow.alloc)) ⟨wr.heap.size, 0, none⟩ 1 1 [.bool true, .func (.func 115) #[] #[]] rfl rfl ?c1 ?c2 ?c3 ?c4 ?c5 ?_)
            case c1 =>
              intro j u hj
              rcases j with _ | _ | j <;> simp at hj <;> subst hj <;> simp [Addr.add] <;> go_simp
            case c2 =>
              intro u hu
              simp at hu
              rcases hu with rfl | rfl <;> rfl
            case c3 => unfold maxLen; omega
            case c4 => omega
            case c5 => simp; have := hbw.size; (try simp at this); omega
            intro v' w1 hown' hgrow _
            have q0 : Rd w1 g p (x + 1 : Nat) y := by
              refine blk_grown (base := w.heap.size) (e := 151) (size := 2) (n := l.length) (xs := stqCells l) ?_ hgrow ?_ hg
              · show Rd _ g p _ _
                repeat (first | exact hr1 | apply Rd.drewN | apply Rd.alloc)
              · repeat (first | exact hI1.1 | apply own_drewN | apply World.ownsRow.alloc)
            have q3 : But (One g) w w1 := by
              refine But.grow (base := w.heap.size) (e := 151) (size := 2) (n := l.length) (xs := stqCells l) ?_ hgrow ?_ (Nat.le_refl _)
              · repeat (first | exact hbw | apply But.drewN | apply But.alloc)
              · repeat (first | exact hI1.1 | apply own_drewN | apply World.ownsRow.alloc)
            have q4 : IsSteps w1 w.heap.size v' (l ++ [⟨⟨true, fun c => c != 47⟩, 115, #[]⟩]) := by
              refine IsSteps.push ?_ _ ?_ hown' hgrow
              · repeat (first | exact hI1 | apply IsSteps.drewN | apply IsSteps.alloc)
              · exact plain_fits _
            clear hgrow hown' hI1 hI hbw
            go_wp2_with fail
            go_roundg (p.size + 1 - (x + 1))
            case measure => rw [HKX.out]; omega
            case rel =>
              refine ⟨x + 1, y, _, rfl, ?_, ?_, q0, q3, q4, ?_⟩
              · omega
              · simp; omega
              · rw [← HGo.out, E.out, List.map_append]
                rfl

        · have d1 : decide ((x : Int) + 1 < (p.size : Int)) = false := by simp; omega
          have c1' : ¬ (x + 1 < p.size ∧ bt p (x + 1) = 42) := fun h => c1 h.1
          have E := Lib.hid (show stepsGo p x y (l.map Stq.s) = stepsGo p (x + 1) y (l.map Stq.s ++ [⟨true, fun c => c != 47⟩]) from by rw [stepsGo, dif_pos hlt, if_pos c42, if_neg c1'])
          clear c42 c1'
          have hr1 := hr.set1 ((x + 1 : Nat) : Int)
          have hI1 : IsSteps (wr.setCell ⟨g, 1, none⟩ (.int .i64 ((x + 1 : Nat) : Int))) _ _ _ := hI.move ((But.refl (One g) wr).set1 1 _) (rd_sty hr) (fun k hk e => by unfold One at e; omega)
          have hbw := hb.set1 1 (.int .i64 ((x + 1 : Nat) : Int))
          go_wp2_with fail
          refine (end_no g p x y _ hr hp' (by omega)).mono ?_
          rintro e w1 ⟨rfl, n, rfl⟩
          go_wp2_with fail
          go_quiet (fail)
          go_wp2_with fail
          go_quiet (fail)
          go_wp2_with (at_builtin; refine wpList_append_own _ rfl _ _ 111 rfl w.heap.size 151 i0 (.agg #[.bool false, .nilFunc]) 2 16 Try.underlying111 hi0 hz0 hz1 hz2 rfl (by decide) _ _ _ rfl (by repeat (first | exact hI1.1 | apply own_drewN | apply World.ownsRow.alloc)) ⟨wr.heap.size, 0, none⟩ 1 1 [.bool true, .func (.func 115) #[] #[]] rfl rfl ?c1 ?c2 ?c3 ?c4 ?c5 ?_)
          case c1 =>
            intro j u hj
            rcases j with _ | _ | j <;> simp at hj <;> subst hj <;> simp [Addr.add] <;> go_simp
          case c2 =>
            intro u hu
            simp at hu
            rcases hu with rfl | rfl <;> rfl
          case c3 => unfold maxLen; omega
          case c4 => omega
          case c5 => simp; have := hbw.size; (try simp at this); omega
          intro v' w1 hown' hgrow _
          have q0 : Rd w1 g p (x + 1 : Nat) y := by
            refine blk_grown (base := w.heap.size) (e := 151) (size := 2) (n := l.length) (xs := stqCells l) ?_ hgrow ?_ hg
            · show Rd _ g p _ _
              repeat (first | exact hr1 | apply Rd.drewN | apply Rd.alloc)
            · repeat (first | exact hI1.1 | apply own_drewN | apply World.ownsRow.alloc)
          have q3 : But (One g) w w1 := by
            refine But.grow (base := w.heap.size) (e := 151) (size := 2) (n := l.length) (xs := stqCells l) ?_ hgrow ?_ (Nat.le_refl _)
            · repeat (first | exact hbw | apply But.drewN | apply But.alloc)
            · repeat (first | exact hI1.1 | apply own_drewN | apply World.ownsRow.alloc)
          have q4 : IsSteps w1 w.heap.size v' (l ++ [⟨⟨true, fun c => c != 47⟩, 115, #[]⟩]) := by
            refine IsSteps.push ?_ _ ?_ hown' hgrow
            · repeat (first | exact hI1 | apply IsSteps.drewN | apply IsSteps.alloc)
            · exact plain_fits _
          clear hgrow hown' hI1 hI hbw
          go_wp2_with fail
          go_roundg (p.size + 1 - (x + 1))
          case measure => rw [HKX.out]; omega
          case rel =>
            refine ⟨x + 1, y, _, rfl, ?_, ?_, q0, q3, q4, ?_⟩
            · omega
            · simp; omega
            · rw [← HGo.out, E.out, List.map_append]
              rfl

      · have c42b : (bt p x == 42) = false := beq_eq_false_iff_ne.2 c42
        by_cases c63 : bt p x = 63
        · have c63b : (bt p x == 63) = true := beq_iff_eq.2 c63
          have E := Lib.hid (show stepsGo p x y (l.map Stq.s) = stepsGo p (x + 1) y (l.map Stq.s ++ [⟨false, fun c => c != 47⟩]) from by rw [stepsGo, dif_pos hlt, if_neg c42, if_pos c63])
          clear c42 c63
          have hr1 := hr.set1 ((x + 1 : Nat) : Int)
          have hI1 : IsSteps (wr.setCell ⟨g, 1, none⟩ (.int .i64 ((x + 1 : Nat) : Int))) _ _ _ := hI.move ((But.refl (One g) wr).set1 1 _) (rd_sty hr) (fun k hk e => by unfold One at e; omega)
          have hbw := hb.set1 1 (.int .i64 ((x + 1 : Nat) : Int))
          go_wp2_with fail
          refine (end_no g p x y _ hr hp' (by omega)).mono ?_
          rintro e w1 ⟨rfl, n, rfl⟩
          go_wp2_with fail
          go_quiet (fail)
          go_wp2_with fail
          go_quiet (fail)
          go_wp2_with (at_builtin; refine wpList_append_own _ rfl _ _ 111 rfl w.heap.size 151 i0 (.agg #[.bool false, .nilFunc]) 2 16 Try.underlying111 hi0 hz0 hz1 hz2 rfl (by decide) _ _ _ rfl (by repeat (first | exact hI1.1 | apply own_drewN | apply World.ownsRow.alloc)) ⟨wr.heap.size, 0, none⟩ 1 1 [.bool false, .func (.func 115) #[] #[]] rfl rfl ?c1 ?c2 ?c3 ?c4 ?c5 ?_)
          case c1 =>
            intro j u hj
            rcases j with _ | _ | j <;> simp at hj <;> subst hj <;> simp [Addr.add] <;> go_simp
          case c2 =>
            intro u hu
            simp at hu
            rcases hu with rfl | rfl <;> rfl
          case c3 => unfold maxLen; omega
          case c4 => omega
          case c5 => simp; have := hbw.size; (try simp at this); omega
          intro v' w1 hown' hgrow _
          have q0 : Rd w1 g p (x + 1 : Nat) y := by
            refine blk_grown (base := w.heap.size) (e := 151) (size := 2) (n := l.length) (xs := stqCells l) ?_ hgrow ?_ hg
            · show Rd _ g p _ _
              repeat (first | exact hr1 | apply Rd.drewN | apply Rd.alloc)
            · repeat (first | exact hI1.1 | apply own_drewN | apply World.ownsRow.alloc)
          have q3 : But (One g) w w1 := by
            refine But.grow (base := w.heap.size) (e := 151) (size := 2) (n := l.length) (xs := stqCells l) ?_ hgrow ?_ (Nat.le_refl _)
            · repeat (first | exact hbw | apply But.drewN | apply But.alloc)
            · repeat (first | exact hI1.1 | apply own_drewN | apply World.ownsRow.alloc)
          have q4 : IsSteps w1 w.heap.size v' (l ++ [⟨⟨false, fun c => c != 47⟩, 115, #[]⟩]) := by
            refine IsSteps.push ?_ _ ?_ hown' hgrow
            · repeat (first | exact hI1 | apply IsSteps.drewN | apply IsSteps.alloc)
            · exact plain_fits _
          clear hgrow hown' hI1 hI hbw
          go_wp2_with fail
          go_roundg (p.size + 1 - (x + 1))
          case measure => rw [HKX.out]; omega
          case rel =>
            refine ⟨x + 1, y, _, rfl, ?_, ?_, q0, q3, q4, ?_⟩
            · omega
            · simp; omega
            · rw [← HGo.out, E.out, List.map_append]
              rfl

        · skip
          have c63b : (bt p x == 63) = false := beq_eq_false_iff_ne.2 c63
          by_cases c91 : bt p x = 91
          · have c91b : (bt p x == 91) = true := beq_iff_eq.2 c91
            have E := Lib.hid (show stepsGo p x y (l.map Stq.s) = stepsGo p ((clsF p x y).1 + 1) (classBad p x (clsF p x y)) (l.map Stq.s ++ [⟨false, classL (clsF p x y).2.2 (notAt p (x + 1))⟩]) from by rw [stepsGo, dif_pos hlt, if_neg c42, if_neg c63, if_pos c91])
            clear c42 c63 c91
            have z1 := clsF_gt p x y
            have z2 := clsF_le p x y hlt
            have hr2 := hr.set1 ((x + 1 : Nat) : Int)
            have hI2 : IsSteps (wr.setCell ⟨g, 1, none⟩ (.int .i64 ((x + 1 : Nat) : Int))) _ _ _ := hI.move ((But.refl (One g) wr).set1 1 _) (rd_sty hr) (fun k hk e => by unfold One at e; omega)
            have hbw2 := hb.set1 1 (.int .i64 ((x + 1 : Nat) : Int))
            go_wp2_with fail
            refine (end_no g p x y _ hr hp' (by omega)).mono ?_
            rintro e w1 ⟨rfl, n, rfl⟩
            go_wp2_with fail
            go_quiet (fail)
            go_wp2_with fail
            go_quiet (fail)
            go_wp2_with fail
            refine (class0 g p (x + 1) y _ (by exact hr2.drewN _) hp hlt (Nat.succ_le_succ (Nat.zero_le x)) (notAt p (x + 1)) rfl (clsF p x y) rfl).mono ?_
            rintro e w2 ⟨f, rfl, hbb, hr1, hfit, fn, cp, rfl⟩
            rw [Nat.add_sub_cancel] at hr1
            have hI1 := (hI2.drewN _).move hbb (rd_sty (hr2.drewN _)) (fun k hk e => by unfold One at e; omega)
            have hbw := (hbw2.drewN _).trans hbb
            clear hbb hI2 hbw2
            generalize hF0 : (clsF p x y).1 = f0 at *
            generalize hF1 : classBad p x (clsF p x y) = y1 at *
            have HF1 := Lib.hid hF1
            clear hF1 hF0
            go_wp2_with (at_builtin; refine wpList_append_own _ rfl _ _ 111 rfl w.heap.size 151 i0 (.agg #[.bool false, .nilFunc]) 2 16 Try.underlying111 hi0 hz0 hz1 hz2 rfl (by decide) _ _ _ rfl (by repeat (first | exact hI1.1 | apply own_drewN | apply World.ownsRow.alloc)) ⟨w2.heap.size, 0, none⟩ 1 1 [.bool false, .func (.func fn) #[] cp] rfl rfl ?c1 ?c2 ?c3 ?c4 ?c5 ?_)
            case c1 =>
              intro j u hj
              rcases j with _ | _ | j <;> simp at hj <;> subst hj <;> simp [Addr.add] <;> go_simp
            case c2 =>
              intro u hu
              simp at hu
              rcases hu with rfl | rfl <;> rfl
            case c3 => unfold maxLen; omega
            case c4 => omega
            case c5 => simp; have := hbw.size; (try simp at this); omega
            intro v' w1 hown' hgrow _
            have q0 : Rd w1 g p (f0 + 1 : Nat) y1 := by
              refine blk_grown (base := w.heap.size) (e := 151) (size := 2) (n := l.length) (xs := stqCells l) ?_ hgrow ?_ hg
              · show Rd _ g p _ _
                repeat (first | exact hr1 | apply Rd.drewN | apply Rd.alloc)
              · repeat (first | exact hI1.1 | apply own_drewN | apply World.ownsRow.alloc)
            have q3 : But (One g) w w1 := by
              refine But.grow (base := w.heap.size) (e := 151) (size := 2) (n := l.length) (xs := stqCells l) ?_ hgrow ?_ (Nat.le_refl _)
              · repeat (first | exact hbw | apply But.drewN | apply But.alloc)
              · repeat (first | exact hI1.1 | apply own_drewN | apply World.ownsRow.alloc)
            have q4 : IsSteps w1 w.heap.size v' (l ++ [⟨⟨false, classL (clsF p x y).2.2 (notAt p (x + 1))⟩, fn, cp⟩]) := by
              refine IsSteps.push ?_ _ ?_ hown' hgrow
              · repeat (first | exact hI1 | apply IsSteps.drewN | apply IsSteps.alloc)
              · exact hfit.later ((But.refl No w2).alloc _) no_sty
            clear hgrow hown' hI1 hI hbw
            go_wp2_with fail
            go_roundg (p.size + 1 - (f0 + 1))
            case measure => rw [HKX.out]; omega
            case rel =>
              refine ⟨f0 + 1, y1, _, rfl, ?_, ?_, q0, q3, q4, ?_⟩
              · omega
              · simp; omega
              · rw [← HGo.out, E.out, List.map_append]
                rfl

          · have c91b : (bt p x == 91) = false := beq_eq_false_iff_ne.2 c91
            have E := Lib.hid (show stepsGo p x y (l.map Stq.s) = stepsGo p (byteA p x) (byteB p x y) (l.map Stq.s ++ [⟨false, fun c => c == byteV p x⟩]) from by rw [stepsGo, dif_pos hlt, if_neg c42, if_neg c63, if_neg c91])
            clear c42 c63 c91
            have z1 := byteA_lt p x
            have z2 := byteA_le p x hlt
            go_wp2_with fail
            refine (end_no g p x y _ hr hp' (by omega)).mono ?_
            rintro e w1 ⟨rfl, n, rfl⟩
            go_wp2_with fail
            go_quiet (fail)
            go_wp2_with fail
            go_quiet (fail)
            go_wp2_with fail
            refine (byte_ g p x y _ (by exact hr.drewN _) hp' hlt).mono ?_
            rintro e w2 ⟨rfl, hbb, hr2⟩
            have hI2 := (hI.drewN _).move hbb (rd_sty (hr.drewN _)) (fun k hk e => by unfold One at e; omega)
            have hbw2 := (hb.drewN _).trans hbb
            clear hbb
            go_wp2_with fail
            refine (one0 (byteV p x) w2).mono ?_
            rintro e w3 ⟨rfl, rfl⟩
            have hI1 := hI2.alloc (.cells #[.int .u8 (byteV p x)] 5)
            have hbw := hbw2.alloc (.cells #[.int .u8 (byteV p x)] 5)
            have hr1 := hr2.alloc (.cells #[.int .u8 (byteV p x)] 5)
            go_wp2_with (at_builtin; refine wpList_append_own _ rfl _ _ 111 rfl w.heap.size 151 i0 (.agg #[.bool false, .nilFunc]) 2 16 Try.underlying111 hi0 hz0 hz1 hz2 rfl (by decide) _ _ _ rfl (by repeat (first | exact hI1.1 | apply own_drewN | apply World.ownsRow.alloc)) ⟨w2.heap.size + 1, 0, none⟩ 1 1 [.bool false, .func (.func 123) #[] #[.pointer (some ⟨w2.heap.size, 0, none⟩)]] rfl rfl ?c1 ?c2 ?c3 ?c4 ?c5 ?_)
            case c1 =>
              intro j u hj
              rcases j with _ | _ | j <;> simp at hj <;> subst hj <;> simp [Addr.add] <;> go_simp
            case c2 =>
              intro u hu
              simp at hu
              rcases hu with rfl | rfl <;> rfl
            case c3 => unfold maxLen; omega
            case c4 => omega
            case c5 => simp; have := hbw.size; (try simp at this); omega
            intro v' w1 hown' hgrow _
            have q0 : Rd w1 g p (byteA p x : Nat) (byteB p x y) := by
              refine blk_grown (base := w.heap.size) (e := 151) (size := 2) (n := l.length) (xs := stqCells l) ?_ hgrow ?_ hg
              · show Rd _ g p _ _
                repeat (first | exact hr1 | apply Rd.drewN | apply Rd.alloc)
              · repeat (first | exact hI1.1 | apply own_drewN | apply World.ownsRow.alloc)
            have q3 : But (One g) w w1 := by
              refine But.grow (base := w.heap.size) (e := 151) (size := 2) (n := l.length) (xs := stqCells l) ?_ hgrow ?_ (Nat.le_refl _)
              · repeat (first | exact hbw | apply But.drewN | apply But.alloc)
              · repeat (first | exact hI1.1 | apply own_drewN | apply World.ownsRow.alloc)
            have q4 : IsSteps w1 w.heap.size v' (l ++ [⟨⟨false, fun c => c == byteV p x⟩, 123, #[.pointer (some ⟨w2.heap.size, 0, none⟩)]⟩]) := by
              refine IsSteps.push ?_ _ ?_ hown' hgrow
              · repeat (first | exact hI1 | apply IsSteps.drewN | apply IsSteps.alloc)
              · exact (one_fits (byteV p x) w2).later ((But.refl No _).alloc _) no_sty
            clear hgrow hown' hI1 hI hbw
            go_wp2_with fail
            go_roundg (p.size + 1 - (byteA p x))
            case measure => rw [HKX.out]; omega
            case rel =>
              refine ⟨byteA p x, (byteB p x y), _, rfl, ?_, ?_, q0, q3, q4, ?_⟩
              · omega
              · simp; omega
              · rw [← HGo.out, E.out, List.map_append]
                rfl

    · have E := Lib.hid (show stepsGo p x y (l.map Stq.s) = (y, l.map Stq.s) from by rw [stepsGo, dif_neg (by omega)])
      go_wp2_with fail
      refine (end_yes g p x y _ hr hp' (by omega)).mono ?_
      rintro e w1 ⟨rfl, n, rfl⟩
      go_wp2_with fail
      go_ret
      refine ⟨_, l, x, rfl, hb.drewN _, ?_, hI.move ((But.refl No wr).drewN n) no_sty (fun _ _ h => h), ?_, by omega⟩
      · rw [← HGo.out, E.out]; exact hr
      · rw [← HGo.out, E.out]
end Go.Proofs.Ytinhlaiogkmkfaa.G
