/- The reference's pieces: the walk. -/
import Derived.Test.YtofgjlfgpnmmdaaRg
namespace Go.Proofs.Ytofgjlfgpnmmdaa.G
open Go.RowKit
attribute [local simp, local go_sem] alloc_drewN setCell_drewN
set_option linter.unusedVariables false
set_option linter.unusedSimpArgs false
set_option maxRecDepth 100000
def pcsCells (l : List Pce) : List Value := l.flatMap fun q => pcL q.1 (fun c => q.2 (c : Int))
theorem pcsCells_length (l : List Pce) : (pcsCells l).length = l.length * 257 := by
  induction l with
  | nil => rfl
  | cons s l ih => simp [pcsCells, pcL_length] at ih ⊢; omega
theorem pcsCells_append (l m : List Pce) : pcsCells (l ++ m) = pcsCells l ++ pcsCells m := by simp [pcsCells]
def IsPcs (w : World) (base : Nat) (v : Value) (l : List Pce) : Prop := w.ownsRow base 47 257 v l.length (pcsCells l)
def PcsAt (w : World) (p : ByteArray) (G : Sum Nat (List Pce)) (k : Nat) (v5 v6 : Value) (wr : World) : Prop :=
  ∃ (x : Nat) (l : List Pce), k = p.size - x ∧ x ≤ p.size ∧ l.length ≤ x ∧ v6 = .int .i64 (x : Int) ∧ But No w wr ∧ IsPcs wr w.heap.size v5 l ∧ pcsGo p x l = G
def PcsPost (w : World) (G : Sum Nat (List Pce)) (e : Ending) (w' : World) : Prop :=
  But No w w' ∧ match G with
  | .inl z => e = .returned (.tuple #[.slice none 0 0, .int .i64 (z : Int), .bool false])
  | .inr l => ∃ v, e = .returned (.tuple #[v, .int .i64 0, .bool true]) ∧ IsPcs w' w.heap.size v l
theorem pcs_stop {p : ByteArray} {x : Nat} (l : List Pce) (h : ¬ x < p.size) : pcsGo p x l = .inr l := by rw [pcsGo, dif_neg h]
theorem pcs_all {p : ByteArray} {x : Nat} (l : List Pce) (h : x < p.size) (h1 : bt p x = 42) (h2 : x + 1 < p.size ∧ bt p (x + 1) = 42) : pcsGo p x l = pcsGo p (x + 2) (l ++ [((2, fun _ => false) : Pce)]) := by rw [pcsGo, dif_pos h, if_pos h1, if_pos h2]
theorem pcs_some {p : ByteArray} {x : Nat} (l : List Pce) (h : x < p.size) (h1 : bt p x = 42) (h2 : ¬ (x + 1 < p.size ∧ bt p (x + 1) = 42)) : pcsGo p x l = pcsGo p (x + 1) (l ++ [((1, fun _ => false) : Pce)]) := by rw [pcsGo, dif_pos h, if_pos h1, if_neg h2]
theorem pcs_quest {p : ByteArray} {x : Nat} (l : List Pce) (h : x < p.size) (h1 : bt p x = 63) : pcsGo p x l = pcsGo p (x + 1) (l ++ [((0, fun c => c != 47) : Pce)]) := by rw [pcsGo, dif_pos h, if_neg (by omega), if_pos h1]
theorem pcs_brk {p : ByteArray} {x : Nat} (l : List Pce) (h : x < p.size) (h1 : bt p x = 91) {z : Nat} {f : Int → Bool} (hb : brk p x = some (z, f)) : pcsGo p x l = pcsGo p z (l ++ [((0, f) : Pce)]) := by
  rw [pcsGo, dif_pos h, if_neg (by omega), if_neg (by omega), if_pos h1]
  split
  · rename_i F hF
    rw [hF] at hb
    injection hb with hb
    subst hb
    rfl
  · rename_i hF
    rw [hF] at hb
    cases hb
theorem pcs_brkno {p : ByteArray} {x : Nat} (l : List Pce) (h : x < p.size) (h1 : bt p x = 91) (hb : brk p x = none) : pcsGo p x l = .inl x := by
  rw [pcsGo, dif_pos h, if_neg (by omega), if_neg (by omega), if_pos h1]
  split
  · rename_i F hF
    rw [hF] at hb
    cases hb
  · rfl
theorem pcs_escno {p : ByteArray} {x : Nat} (l : List Pce) (h : x < p.size) (h1 : bt p x = 92) (h2 : p.size ≤ x + 1) : pcsGo p x l = .inl x := by rw [pcsGo, dif_pos h, if_neg (by omega), if_neg (by omega), if_neg (by omega), if_pos h1, if_pos h2]
theorem pcs_esc {p : ByteArray} {x : Nat} (l : List Pce) (h : x < p.size) (h1 : bt p x = 92) (h2 : ¬ p.size ≤ x + 1) : pcsGo p x l = pcsGo p (x + 2) (l ++ [((0, fun c => c == bt p (x + 1)) : Pce)]) := by rw [pcsGo, dif_pos h, if_neg (by omega), if_neg (by omega), if_neg (by omega), if_pos h1, if_neg h2]
theorem pcs_byte {p : ByteArray} {x : Nat} (l : List Pce) (h : x < p.size) (h1 : bt p x ≠ 42) (h2 : bt p x ≠ 63) (h3 : bt p x ≠ 91) (h4 : bt p x ≠ 92) : pcsGo p x l = pcsGo p (x + 1) (l ++ [((0, fun c => c == bt p x) : Pce)]) := by rw [pcsGo, dif_pos h, if_neg h1, if_neg h2, if_neg h3, if_neg h4]
theorem IsPcs.alloc {w : World} {base : Nat} {v : Value} {l : List Pce} (h : IsPcs w base v l) (o : Obj) : IsPcs (w.alloc o) base v l := World.ownsRow.alloc h o
theorem IsPcs.but {w w' : World} {base : Nat} {v : Value} {l : List Pce} (h : IsPcs w base v l) (hb : But No w w') : IsPcs w' base v l := own_but h hb (fun _ _ _ h => h)
def questF (c i : Nat) : Bool := decide (i < c) && (i != 47)
theorem questF_start : questF 0 = nof := by funext i; simp [questF, nof]
theorem questF_step (c : Nat) : (fun i => if i = c then (c != 47) else questF c i) = questF (c + 1) := by
  funext i
  unfold questF
  by_cases e : i = c
  · subst e
    simp
  · rw [if_neg e]
    have : (i < c + 1) ↔ i < c := by omega
    simp [this]
theorem questF_end (c : Nat) (h : c < 256) : ((c : Int) != 47) = questF 256 c := by
  have e : ((c : Int) != 47) = (c != 47) := by rw [Bool.eq_iff_iff]; simp; omega
  rw [e]
  simp [questF, h]
theorem brackets_no (p : ByteArray) (fr : Nat) (hfr : fr < p.size) (hp : p.size ≤ 256) (w : World) (h : brk p fr = none) :
    Calls Try.prog 22 #[.string p, .int .i64 (fr : Int)] w fun e w' => e = .returned (.tuple #[.agg (pc 0 nof), .int .i64 0, .bool false]) ∧ But No w w' :=
  brackets0 p fr hfr hp w _ rfl _ rfl none h
theorem brackets_ok (p : ByteArray) (fr : Nat) (hfr : fr < p.size) (hp : p.size ≤ 256) (w : World) (z : Nat) (f : Int → Bool) (F : Nat → Bool) (hF : (fun c : Nat => f (c : Int)) = F) (h : brk p fr = some (z, f)) :
    Calls Try.prog 22 #[.string p, .int .i64 (fr : Int)] w fun e w' => e = .returned (.tuple #[.agg (pc 0 F), .int .i64 (z : Int), .bool true]) ∧ But No w w' := by
  subst hF
  exact brackets0 p fr hfr hp w _ rfl _ rfl (some (z, f)) h
theorem brk_le {p : ByteArray} {fr z : Nat} {f : Int → Bool} (h : brk p fr = some (z, f)) : z ≤ p.size := by
  unfold brk at h
  split at h
  · split at h
    · simp at h
      omega
    · cases h
  · cases h
theorem eqF (v : Int) (b : Nat) (h : v = (b : Int)) (c : Nat) : ((c : Int) == v) = decide (c = b) := by
  subst h
  rw [Bool.eq_iff_iff]
  simp
  omega
theorem infoPc3 : ∃ i, Try.prog.info? 47 = some i ∧ i.zero = some (.agg (pc 0 nof)) ∧ i.size = 257 ∧ i.bytes = 264 := by
  have h := infoPc
  cases hq : Try.prog.info? 47 with
  | none => simp [hq] at h
  | some i =>
    simp only [hq, Option.map_some, Option.some.injEq, Prod.mk.injEq] at h
    exact ⟨i, rfl, h.1, h.2.1, h.2.2⟩
theorem pc_cells {w : World} {g : Nat} {k : Int} {f : Nat → Bool} (hg : w.heap[g]? = some (.cells (pc k f) 47 (0, 0))) :
    ∀ (j : Nat) u, (pcL k f)[j]? = some u → w.cell? ((⟨g, 0, none⟩ : Addr).add j) = some u := by
  intro j u h
  have hadd : (⟨g, 0, none⟩ : Addr).add j = ⟨g, j, none⟩ := by unfold Addr.add; split <;> simp_all
  rw [hadd, cell_of_row w g j _ _ _ hg, pc, List.getElem?_toArray, h]
theorem appPc {ops : Array Oper} {rest : List Oper} {o : Oper} {a : Act} {W : World} {Q : Exit → Act → World → Prop} (hgd : o.guard = none) (s y : Operand)
    (ho : o.op = .call { callee := .builtin .append, args := #[s, y], argTypes := #[37, 37] })
    (base : Nat) (v : Value) (l : List Pce) (hs : a.eval s = v) (hI : IsPcs W base v l) (g : Nat) (k : Int) (f : Nat → Bool) (hy : a.eval y = .slice (some ⟨g, 0, none⟩) 1 1)
    (hg : W.heap[g]? = some (.cells (pc k f) 47 (0, 0))) (hl : l.length ≤ 1000) (hb : base ≤ W.heap.size)
    (h : ∀ v' w', w'.ownsRow base 47 257 v' (l.length + 1) (pcsCells l ++ pcL k f) → W.grownBy w' v.ownBlock → wpList Try.prog ops Q rest (a.put o.dst v') w') : wpList Try.prog ops Q (o :: rest) a W := by
  obtain ⟨i, h1, h2, h3, h4⟩ := infoPc3
  refine wpList_append_own W hgd s y 37 ho base 47 i (.agg (pc 0 nof)) 257 264 Try.underlying37 h1 h2 h3 h4 (pc_size _ _) (by decide) v l.length (pcsCells l) hs hI
    ⟨g, 0, none⟩ 1 1 (pcL k f) hy (pcL_length _ _) (pc_cells hg) (fun u hu => pcL_one _ _ u hu) (by unfold maxLen; omega) (by omega) hb (fun v' w' h5 h6 _ => h v' w' h5 h6)
theorem PcsAt.step {w W w1 : World} {p : ByteArray} {G : Sum Nat (List Pce)} {x : Nat} {l : List Pce} {v v' : Value} (x2 : Nat) (q : Pce) (k : Int) (f : Nat → Bool) (hk : q.1 = k) (hf : ∀ c : Nat, c < 256 → q.2 (c : Int) = f c) (hx : x < x2) (hx2 : x2 ≤ p.size) (hll : l.length ≤ x) (hb : But No w W) (hI : IsPcs W w.heap.size v l)
    (ho : w1.ownsRow w.heap.size 47 257 v' (l.length + 1) (pcsCells l ++ pcL k f)) (hg : W.grownBy w1 v.ownBlock) (hF : pcsGo p x2 (l ++ [q]) = G) :
    PcsAt w p G (p.size - x2) v' (.int .i64 (x2 : Int)) w1 := by
  have e : pcL k f = pcL q.1 (fun c => q.2 (c : Int)) := by
    have h := pc_congr (k := k) (f := f) (g := fun c => q.2 (c : Int)) (fun c hc => (hf c hc).symm)
    rw [hk]
    simpa [pc] using h
  refine ⟨x2, l ++ [q], rfl, hx2, by simp; omega, rfl, hb.grow hg hI (Nat.le_refl _), ?_, hF⟩
  unfold IsPcs
  rw [List.length_append, pcsCells_append]
  rw [e] at ho
  simpa [pcsCells] using ho
set_option maxHeartbeats 16000000 in
theorem pieces0 (p : ByteArray) (hp : p.size ≤ 256) (w : World) (G : Sum Nat (List Pce)) (hG : pcsGo p 0 [] = G) :
    Calls Try.prog 18 #[.string p] w (PcsPost w G) := by
  have hp' : p.size ≤ 9223372036854775807 := by omega
  have hv := zeroPc
  have HG := Lib.hid hG
  clear hG
  go_enter Try.func18, Try.ntmps18
  go_wp2_with fail
  go_loopg [5, 6] p.size (fun k v5 v6 wr => PcsAt w p G k v5 v6 wr)
  case atStart => exact ⟨0, [], rfl, Nat.zero_le _, Nat.le_refl _, rfl, But.refl _ _, World.ownsRow_nil _ _ _ _, HG.out⟩
  case round =>
    obtain ⟨x, l, hkx, hxle, hll, rfl, hb, hI, hF⟩ := hrel
    have HF := Lib.hid hF
    have HKX := Lib.hid hkx
    clear hF hkx
    obtain ⟨A0, c0, rfl⟩ := own_slice hI
    have hbz := hb.size
    by_cases hlt : x < p.size
    · have hbt := bt_at p x hlt
      have hlt' : (x : Int) < (p.size : Int) := by omega
      have hd : decide ((x : Int) < (p.size : Int)) = true := by simp; omega
      have hb1 : ∀ w, (Instr.build 47 #[(0, .int .i64 1)]).run Try.prog w = .ok (.agg (pc 1 nof)) w := fun w => run_build w _ _ _ builtPc1
      have hb2 : ∀ w, (Instr.build 47 #[(0, .int .i64 2)]).run Try.prog w = .ok (.agg (pc 2 nof)) w := fun w => run_build w _ _ _ builtPc2
      by_cases c42 : bt p x = 42
      · have e42 : (bt p x == 42) = true := by simp [c42]
        by_cases c1a : x + 1 < p.size
        · have hbt1 := bt_at p (x + 1) c1a
          have hd1 : decide ((x : Int) + 1 < (p.size : Int)) = true := by simp; omega
          have hlt1 : (x : Int) + 1 < (p.size : Int) := by omega
          by_cases c1b : bt p (x + 1) = 42
          · have e1 : (bt p (x + 1) == 42) = true := by simp [c1b]
            have E := Lib.hid (show pcsGo p (x + 2) (l ++ [((2, fun _ => false) : Pce)]) = G from by rw [← HF.out, pcs_all l hlt c42 ⟨c1a, c1b⟩])
            clear c42 c1b HF
            go_wp2_with (first | refine onePc rfl _ rfl 2 nof rfl ?_ | (refine appPc rfl _ _ rfl w.heap.size _ l rfl (hI.alloc _) wr.heap.size 2 nof rfl (heap_alloc_new _ _) (by omega) (by simp; omega) ?_; intro v' w1 hown hgrow))

            go_roundg (p.size - (x + 2))
            case measure => have := HKX.out; omega
            case rel => exact PcsAt.step (x + 2) _ 2 nof rfl (fun _ _ => rfl) (by omega) (by omega) hll (hb.alloc _) (hI.alloc _) hown hgrow E.out
          · have e1 : (bt p (x + 1) == 42) = false := by simp [c1b]
            have E := Lib.hid (show pcsGo p (x + 1) (l ++ [((1, fun _ => false) : Pce)]) = G from by rw [← HF.out, pcs_some l hlt c42 (fun h => c1b h.2)])
            clear c42 c1b HF
            go_wp2_with (first | refine onePc rfl _ rfl 1 nof rfl ?_ | (refine appPc rfl _ _ rfl w.heap.size _ l rfl (hI.alloc _) wr.heap.size 1 nof rfl (heap_alloc_new _ _) (by omega) (by simp; omega) ?_; intro v' w1 hown hgrow))

            go_roundg (p.size - (x + 1))
            case measure => have := HKX.out; omega
            case rel => exact PcsAt.step (x + 1) _ 1 nof rfl (fun _ _ => rfl) (by omega) (by omega) hll (hb.alloc _) (hI.alloc _) hown hgrow E.out
        · have hd1 : decide ((x : Int) + 1 < (p.size : Int)) = false := by simp; omega
          have hlt1 : ¬ ((x : Int) + 1 < (p.size : Int)) := by omega
          have E := Lib.hid (show pcsGo p (x + 1) (l ++ [((1, fun _ => false) : Pce)]) = G from by rw [← HF.out, pcs_some l hlt c42 (fun h => c1a h.1)])
          clear c42 HF
          go_wp2_with (first | refine onePc rfl _ rfl 1 nof rfl ?_ | (refine appPc rfl _ _ rfl w.heap.size _ l rfl (hI.alloc _) wr.heap.size 1 nof rfl (heap_alloc_new _ _) (by omega) (by simp; omega) ?_; intro v' w1 hown hgrow))

          go_roundg (p.size - (x + 1))
          case measure => have := HKX.out; omega
          case rel => exact PcsAt.step (x + 1) _ 1 nof rfl (fun _ _ => rfl) (by omega) (by omega) hll (hb.alloc _) (hI.alloc _) hown hgrow E.out
      · have e42 : (bt p x == 42) = false := by simp [c42]
        by_cases c63 : bt p x = 63
        · have e63 : (bt p x == 63) = true := by simp [c63]
          have E := Lib.hid (show pcsGo p (x + 1) (l ++ [((0, fun c => c != 47) : Pce)]) = G from by rw [← HF.out, pcs_quest l hlt c63])
          clear c42 c63 HF
          obtain ⟨wo, rfl⟩ : ∃ wo : World, wo = wr := ⟨_, rfl⟩
          go_upto_block 3 with (fail)
          go_cut [8] (fun v8 wc => But No wo wc ∧ wc.heap[wo.heap.size]? = some (.cells (pc 0 (questF 256)) 47 (0, 0)))
          case first =>
            go_wp2_with fail
            go_loopg [8] 256 (fun k v8 wq => ∃ c : Nat, k = 256 - c ∧ c ≤ 256 ∧ v8 = .int .i64 (c : Int) ∧ But No wo wq ∧ wq.heap[wo.heap.size]? = some (.cells (pc 0 (questF c)) 47 (0, 0)))
            case atStart => exact ⟨0, rfl, by omega, rfl, (But.refl _ _).alloc _, by rw [questF_start]; exact heap_alloc_new _ _⟩
            case round =>
              obtain ⟨c, hkc, hc2, rfl, hq1, hq2⟩ := hrel
              have HKC := Lib.hid hkc
              clear hkc
              by_cases hch : c < 256
              · have hch' : (c : Int) < 256 := by omega
                have hdc : decide ((c : Int) < 256) = true := by simp; omega
                have hcell : wr.cell? ⟨wo.heap.size, 1 + c, none⟩ = some (.bool (questF c c)) := by rw [cell_of_row wr _ _ _ _ _ hq2, pc_at' _ _ _ hch]
                have hfree : wr.frozen? ⟨wo.heap.size, 1 + c, none⟩ = false := blkfree hq2 (1 + c)
                have e47 : ((c : Int) != 47) = (c != 47) := by rw [Bool.eq_iff_iff]; simp; omega
                have hset : But No wo (wr.setCell ⟨wo.heap.size, 1 + c, none⟩ (.bool ((c : Int) != 47))) ∧ (wr.setCell ⟨wo.heap.size, 1 + c, none⟩ (.bool ((c : Int) != 47))).heap[wo.heap.size]? = some (.cells (pc 0 (questF (c + 1))) 47 (0, 0)) :=
                  ⟨hq1.setCell (p := ⟨wo.heap.size, 1 + c, none⟩) (.inr (Nat.le_refl _)) _, by rw [blkset hq2 (1 + c) _, pc_set', e47, questF_step]⟩
                have HS := Lib.hid hset
                clear e47 hset
                go_wp2_with fail
                go_roundg (256 - (c + 1))
                case measure => have := HKC.out; omega
                case rel => exact ⟨c + 1, rfl, by omega, by first | rfl | simp, HS.out⟩
              · have hch' : ¬ (c : Int) < 256 := by omega
                have hdc : decide ((c : Int) < 256) = false := by simp; omega
                have E2 := Lib.hid (show wr.heap[wo.heap.size]? = some (.cells (pc 0 (questF 256)) 47 (0, 0)) from by rw [show 256 = c from by omega]; exact hq2)
                go_wp2_with fail
                go_meet
                case rel => exact ⟨hq1, E2.out⟩
          case rest =>
            obtain ⟨hq1, hq2⟩ := hcut
            have hq3 := hq1.size
            go_wp2_with (first | refine loadPc rfl _ rfl _ rfl 0 (questF 256) hq2 ?_ | refine onePc rfl _ rfl 0 (questF 256) rfl ?_ | (refine appPc rfl _ _ rfl w.heap.size _ l rfl ((hI.but hq1).alloc _) wc.heap.size 0 (questF 256) rfl (heap_alloc_new _ _) (by omega) (by simp; omega) ?_; intro v' w1 hown hgrow))
            go_roundg (p.size - (x + 1))
            case measure => have := HKX.out; omega
            case rel => exact PcsAt.step (x + 1) _ 0 (questF 256) rfl (fun c h => questF_end c h) (by omega) (by omega) hll ((hb.trans hq1).alloc _) ((hI.but hq1).alloc _) hown hgrow E.out
        · have e63 : (bt p x == 63) = false := by simp [c63]
          by_cases c91 : bt p x = 91
          · have e91 : (bt p x == 91) = true := by simp [c91]
            cases hB : brk p x with
            | none =>
              have E := Lib.hid (show Sum.inl x = G from by rw [← HF.out, pcs_brkno l hlt c91 hB])
              clear c42 c63 c91 HF
              go_wp2_with (first | (go_at_call 22; refine (brackets_no p x hlt hp _ hB).mono ?_; rintro e w1 ⟨rfl, hbw⟩) | refine storePc rfl _ _ rfl _ 0 nof rfl rfl 0 nof (heap_alloc_new _ _) ?_)
              go_ret3
              refine ⟨(hb.trans hbw).alloc _ |>.setRow (.inr ?_) _, ?_⟩
              · have := hbw.size; omega
              · rw [← E.out]
                rfl
            | some F =>
              obtain ⟨z, f⟩ := F
              have E := Lib.hid (show pcsGo p z (l ++ [((0, f) : Pce)]) = G from by rw [← HF.out, pcs_brk l hlt c91 hB])
              have hz1 := brk_gt hB
              have hz2 := brk_le hB
              obtain ⟨Fn, hFn⟩ : ∃ Fn : Nat → Bool, (fun c : Nat => f (c : Int)) = Fn := ⟨_, rfl⟩
              have HFn := Lib.hid hFn
              have HBr := Lib.hid hB
              clear c42 c63 c91 HF hFn hB
              go_wp2_with (first | (go_at_call 22; refine (brackets_ok p x hlt hp _ z f Fn HFn.out HBr.out).mono ?_; rintro e w1 ⟨rfl, hbw⟩) | refine storePc rfl _ _ rfl _ 0 Fn rfl rfl 0 nof (heap_alloc_new _ _) ?_ | refine loadPc rfl _ rfl _ rfl 0 Fn (setRow_heap _ _ _ _ _ _ (heap_alloc_new _ _)) ?_ | refine onePc rfl _ rfl 0 Fn rfl ?_ | (refine appPc rfl _ _ rfl w.heap.size _ l rfl (hI.but (((hbw.alloc _).setRow (.inr (by have := hbw.size; exact this)) _).alloc _)) _ 0 Fn rfl (heap_alloc_new _ _) (by omega) (by have := hbw.size; simp; omega) ?_; intro v' w2 hown hgrow))
              go_roundg (p.size - z)
              case measure => have := HKX.out; omega
              case rel => exact PcsAt.step z _ 0 Fn rfl (fun c _ => congrFun HFn.out c) (by omega) (by omega) hll (hb.trans (((hbw.alloc _).setRow (.inr (by have := hbw.size; exact this)) _).alloc _)) (hI.but (((hbw.alloc _).setRow (.inr (by have := hbw.size; exact this)) _).alloc _)) hown hgrow E.out
          · have e91 : (bt p x == 91) = false := by simp [c91]
            by_cases c92 : bt p x = 92
            · have e92 : (bt p x == 92) = true := by simp [c92]
              by_cases c1a : p.size ≤ x + 1
              · have hd1 : decide ((p.size : Int) ≤ (x : Int) + 1) = true := by simp; omega
                have hlt1 : (p.size : Int) ≤ (x : Int) + 1 := by omega
                have E := Lib.hid (show Sum.inl x = G from by rw [← HF.out, pcs_escno l hlt c92 c1a])
                clear c42 c63 c91 c92 HF
                go_wp2_with fail
                go_ret3
                exact ⟨hb, by rw [← E.out]; rfl⟩
              · have hd1 : decide ((p.size : Int) ≤ (x : Int) + 1) = false := by simp; omega
                have hlt1 : ¬ (p.size : Int) ≤ (x : Int) + 1 := by omega
                have hlt2 : (x : Int) + 1 < (p.size : Int) := by omega
                have hbt1 := bt_at p (x + 1) (by omega)
                obtain ⟨b, hbb⟩ : ∃ b : Nat, bt p (x + 1) = (b : Int) := ⟨(bt p (x + 1)).toNat, by have := bt_range p (x + 1); omega⟩
                have hb256 : b < 256 := by have := bt_range p (x + 1); omega
                have E := Lib.hid (show pcsGo p (x + 2) (l ++ [((0, fun c => c == bt p (x + 1)) : Pce)]) = G from by rw [← HF.out, pcs_esc l hlt c92 c1a])
                have HBB := Lib.hid hbb
                rw [hbb] at hbt1
                clear c42 c63 c91 c92 HF hbb
                go_wp2_with (first | (go_at_call 23; refine (single0 b hb256 _).mono ?_; rintro e w1 ⟨rfl, hbw⟩) | refine onePc rfl _ rfl 0 (fun c => decide (c = b)) rfl ?_ | (refine appPc rfl _ _ rfl w.heap.size _ l rfl ((hI.but hbw).alloc _) w1.heap.size 0 (fun c => decide (c = b)) rfl (heap_alloc_new _ _) (by omega) (by have := hbw.size; simp; omega) ?_; intro v' w2 hown hgrow))
                go_roundg (p.size - (x + 2))
                case measure => have := HKX.out; omega
                case rel => exact PcsAt.step (x + 2) _ 0 (fun c => decide (c = b)) rfl (fun c _ => eqF _ b HBB.out c) (by omega) (by omega) hll ((hb.trans hbw).alloc _) ((hI.but hbw).alloc _) hown hgrow E.out
            · have e92 : (bt p x == 92) = false := by simp [c92]
              obtain ⟨b, hbb⟩ : ∃ b : Nat, bt p x = (b : Int) := ⟨(bt p x).toNat, by have := bt_range p x; omega⟩
              have hb256 : b < 256 := by have := bt_range p x; omega
              have E := Lib.hid (show pcsGo p (x + 1) (l ++ [((0, fun c => c == bt p x) : Pce)]) = G from by rw [← HF.out, pcs_byte l hlt c42 c63 c91 c92])
              have HBB := Lib.hid hbb
              rw [hbb] at hbt e42 e63 e91 e92
              clear c42 c63 c91 c92 HF hbb
              go_wp2_with (first | (go_at_call 23; refine (single0 b hb256 _).mono ?_; rintro e w1 ⟨rfl, hbw⟩) | refine onePc rfl _ rfl 0 (fun c => decide (c = b)) rfl ?_ | (refine appPc rfl _ _ rfl w.heap.size _ l rfl ((hI.but hbw).alloc _) w1.heap.size 0 (fun c => decide (c = b)) rfl (heap_alloc_new _ _) (by omega) (by have := hbw.size; simp; omega) ?_; intro v' w2 hown hgrow))
              go_roundg (p.size - (x + 1))
              case measure => have := HKX.out; omega
              case rel => exact PcsAt.step (x + 1) _ 0 (fun c => decide (c = b)) rfl (fun c _ => eqF _ b HBB.out c) (by omega) (by omega) hll ((hb.trans hbw).alloc _) ((hI.but hbw).alloc _) hown hgrow E.out
    · have E := Lib.hid (show Sum.inr l = G from by rw [← HF.out, pcs_stop l hlt])
      have hlt' : ¬ (x : Int) < (p.size : Int) := by omega
      have hd : decide ((x : Int) < (p.size : Int)) = false := by simp; omega
      go_wp2_with fail
      go_ret3
      refine ⟨hb, ?_⟩
      rw [← E.out]
      exact ⟨_, rfl, hI⟩
end Go.Proofs.Ytofgjlfgpnmmdaa.G
