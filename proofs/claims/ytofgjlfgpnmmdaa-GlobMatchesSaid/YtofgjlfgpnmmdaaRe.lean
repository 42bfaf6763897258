/- The reference's brackets: the walk. -/
import Derived.Test.YtofgjlfgpnmmdaaRd
namespace Go.Proofs.Ytofgjlfgpnmmdaa.G
open Go.RowKit
attribute [local simp, local go_sem] alloc_drewN setCell_drewN
set_option linter.unusedVariables false
set_option linter.unusedSimpArgs false
set_option maxRecDepth 100000
/-- Two pieces of its own, the first one still empty. -/
def Two (w : World) (f : Nat → Bool) (wr : World) : Prop :=
  But No w wr ∧ wr.heap[w.heap.size]? = some (.cells (pc 0 nof) 47 (0, 0)) ∧ wr.heap[w.heap.size + 1]? = some (.cells (pc 0 f) 47 (0, 0))
theorem Two.drewN {w wr : World} {f : Nat → Bool} (h : Two w f wr) (n : Nat) : Two w f (wr.drewN n) := ⟨h.1.drewN n, h.2.1, h.2.2⟩
theorem Two.set {w wr : World} {f g : Nat → Bool} (h : Two w f wr) (i : Nat) (b : Bool) (hg : (fun c => if c = i then b else f c) = g) : Two w g (wr.setCell ⟨w.heap.size + 1, 1 + i, none⟩ (.bool b)) :=
  ⟨h.1.setCell (p := ⟨w.heap.size + 1, 1 + i, none⟩) (.inr (Nat.le_succ _)) _, blkfar h.2.1 (by simp only; omega) _, by rw [blkset h.2.2 (1 + i) (.bool b), pc_set', hg]⟩
theorem Two.cell {w wr : World} {f : Nat → Bool} (h : Two w f wr) (i : Nat) (hi : i < 256) : wr.cell? ⟨w.heap.size + 1, 1 + i, none⟩ = some (.bool (f i)) := by
  rw [cell_of_row wr _ _ _ _ _ h.2.2, pc_at' _ _ _ hi]
theorem Two.free {w wr : World} {f : Nat → Bool} (h : Two w f wr) (i : Nat) : wr.frozen? ⟨w.heap.size + 1, i, none⟩ = false := blkfree h.2.2 i
/-- What brackets answer. -/
def brkEnd : Option (Nat × (Int → Bool)) → Value
  | some (z, f) => .tuple #[.agg (pc 0 fun c => f (c : Int)), .int .i64 (z : Int), .bool true]
  | none => .tuple #[.agg (pc 0 nof), .int .i64 0, .bool false]
theorem brk_fail {p : ByteArray} {fr x : Nat} {no : Bool} {R : List (Int × Int)} {G : Option (Nat × List (Int × Int))} {A : Option (Nat × (Int → Bool))} (hno : notAt p (fr + 1) = no) (hG : rgo p (if no then fr + 2 else fr + 1) [] = G) (hA : brk p fr = A)
    (hF : rgo p x R = G) (E : rgo p x R = none) : A = none := by
  rw [← hA]
  unfold brk
  rw [hno, hG, ← hF, E]
theorem brk_shut {p : ByteArray} {fr x : Nat} {no : Bool} {R : List (Int × Int)} {G : Option (Nat × List (Int × Int))} {A : Option (Nat × (Int → Bool))} (hno : notAt p (fr + 1) = no) (hG : rgo p (if no then fr + 2 else fr + 1) [] = G) (hA : brk p fr = A)
    (hF : some (x, R) = G) : A = if x < p.size ∧ R ≠ [] then some (x + 1, classL R no) else none := by
  rw [← hA]
  unfold brk
  rw [hno, hG, ← hF]
theorem brk_ret {w wz : World} {k0 : Int} {f0 : Nat → Bool} {a : Act} (A : Option (Nat × (Int → Bool))) (k : Int) (f : Nat → Bool) (h1 : But No w wz) (h2 : wz.heap[w.heap.size]? = some (.cells (pc k0 f0) 47 (0, 0)))
    (h3 : a.tmps.getD 4 undef = .pointer (some ⟨w.heap.size, 0, none⟩)) (h4 : brkEnd A = .tuple #[.agg (pc k f), a.tmps.getD 5 undef, a.tmps.getD 6 undef]) (h5 : a.defers = []) :
    bodyPost Try.prog Try.f22 (fun e w' => e = .returned (brkEnd A) ∧ But No w w') .ret a (wz.setRow w.heap.size (pc k f)) :=
  bodyPost_ret (resBrk a.tmps _ w.heap.size k f h3 (setRow_heap _ _ _ _ _ _ h2)) h5 ⟨by rw [h4], h1.setRow (.inr (Nat.le_refl _)) _⟩
def BrkAt (w : World) (p : ByteArray) (G : Option (Nat × List (Int × Int))) (k : Nat) (v7 v10 : Value) (wr : World) : Prop :=
  ∃ (x : Nat) (R : List (Int × Int)), k = p.size - x ∧ x ≤ p.size ∧ R.length ≤ x ∧ v7 = .int .i64 (x : Int) ∧ v10 = .int .i64 (R.length : Int) ∧ Two w (inR R) wr ∧ rgo p x R = G
def BrkOut (w : World) (p : ByteArray) (G : Option (Nat × List (Int × Int))) (v7 v10 : Value) (wr : World) : Prop :=
  ∃ (x : Nat) (R : List (Int × Int)), x ≤ p.size ∧ R.length ≤ x ∧ v7 = .int .i64 (x : Int) ∧ v10 = .int .i64 (R.length : Int) ∧ Two w (inR R) wr ∧ some (x, R) = G
set_option maxHeartbeats 8000000 in
theorem brackets0 (p : ByteArray) (fr : Nat) (hfr : fr < p.size) (hp : p.size ≤ 256) (w : World) (no : Bool) (hno : notAt p (fr + 1) = no) (G : Option (Nat × List (Int × Int))) (hG : rgo p (if no then fr + 2 else fr + 1) [] = G) (A : Option (Nat × (Int → Bool))) (hA : brk p fr = A) :
    Calls Try.prog 22 #[.string p, .int .i64 (fr : Int)] w fun e w' => e = .returned (brkEnd A) ∧ But No w w' := by
  have hp' : p.size ≤ 9223372036854775807 := by omega
  have hv := zeroPc
  have HG := Lib.hid hG
  have HA := Lib.hid hA
  have HNO := Lib.hid hno
  clear hG hA hno
  go_enter Try.func22, Try.ntmps22
  go_upto_region 2 with (fail)
  go_cut [8] (fun v8 wc => v8 = .bool no ∧ But No w wc ∧ wc.heap[w.heap.size]? = some (.cells (pc 0 nof) 47 (0, 0)) ∧ wc.heap.size = w.heap.size + 1)
  case first =>
    have hfin : ∀ n, But No w ((w.alloc (.cells (pc 0 nof) 47)).drewN n) ∧ ((w.alloc (.cells (pc 0 nof) 47)).drewN n).heap[w.heap.size]? = some (.cells (pc 0 nof) 47 (0, 0)) ∧ ((w.alloc (.cells (pc 0 nof) 47)).drewN n).heap.size = w.heap.size + 1 :=
      fun n => ⟨((But.refl _ _).alloc _).drewN n, heap_alloc_new _ _, by simp⟩
    have HFin := Lib.hid hfin
    clear hfin
    by_cases hlt : fr + 1 < p.size
    · have hbt := bt_at p (fr + 1) hlt
      have E := Lib.hid (show (bt p (fr + 1) == 33) = no from by rw [← HNO.out]; simp [notAt, hlt])
      have hlt' : (fr : Int) + 1 < (p.size : Int) := by omega
      have hd : decide ((fr : Int) + 1 < (p.size : Int)) = true := by simp; omega
      go_wp2_with fail
      go_meet
      case rel => exact ⟨by rw [E.out], HFin.out 0⟩
    · have hlt' : ¬ ((fr : Int) + 1 < (p.size : Int)) := by omega
      have hd : decide ((fr : Int) + 1 < (p.size : Int)) = false := by simp; omega
      have E := Lib.hid (show no = false from by rw [← HNO.out]; simp [notAt, hlt])
      go_wp2_with fail
      go_meet
      case rel => exact ⟨by rw [E.out], HFin.out 0⟩
  case rest =>
    obtain ⟨rfl, hb0, hc0, hs0⟩ := hcut
    obtain ⟨x0, hx0⟩ : ∃ x0, x0 = (if no then fr + 2 else fr + 1) := ⟨_, rfl⟩
    have HX0 := Lib.hid hx0
    have hx0le : x0 ≤ p.size := by
      rw [hx0]
      split
      · rename_i hn
        exact notAt_lt (by rw [HNO.out]; exact hn)
      · omega
    clear hx0
    obtain ⟨wo, rfl⟩ : ∃ wo : World, wo = wc := ⟨_, rfl⟩
    go_upto_if 29 with (fail)
    go_cut [7] (fun v7 wc => v7 = .int .i64 (x0 : Int) ∧ wc = wo)
    case first =>
      cases no with
      | false =>
        have E := Lib.hid (show x0 = fr + 1 from HX0.out)
        go_wp2_with fail
        go_meet
        case rel => exact ⟨by rw [E.out]; rfl, rfl⟩
      | true =>
        have E := Lib.hid (show x0 = fr + 2 from HX0.out)
        go_wp2_with fail
        go_meet
        case rel => exact ⟨by rw [E.out]; first | rfl | (congr 1; omega), rfl⟩
    case rest =>
      obtain ⟨rfl, rfl⟩ := hcut
      go_upto_block 0 with (fail)
      go_cut [7, 10] (fun v7 v10 wc => BrkOut w p G v7 v10 wc)
      case first =>
        have hT0 : Two w (inR []) (wc.alloc (.cells (pc 0 nof) 47)) := ⟨hb0.alloc _, blkold hc0 _, by rw [← hs0, inR_nil]; exact heap_alloc_new _ _⟩
        have HT0 := Lib.hid hT0
        clear hT0
        go_wp2_with fail
        go_loopg [7, 10] (p.size - x0) (fun k v7 v10 wr => BrkAt w p G k v7 v10 wr)
        case atStart =>
          exact ⟨x0, [], rfl, hx0le, Nat.zero_le _, rfl, rfl, HT0.out, by rw [HX0.out]; exact HG.out⟩
        case round =>
          obtain ⟨x, R, hkx, hxle, hRl, rfl, rfl, hT, hF⟩ := hrel
          have HF := Lib.hid hF
          have HKX := Lib.hid hkx
          clear hF hkx
          go_upto_region 7 with (fail)
          go_cut [41] (fun v41 wc => v41 = .bool (goes p x) ∧ ∃ n, wc = wr.drewN n)
          case first =>
            by_cases hlt : x < p.size
            · have hbt := bt_at p x hlt
              have E := Lib.hid (show (bt p x != 93) = goes p x from by simp [goes, hlt])
              have hlt' : (x : Int) < (p.size : Int) := by omega
              have hd : decide ((x : Int) < (p.size : Int)) = true := by simp; omega
              go_wp2_with fail
              go_meet
              case rel => exact ⟨by rw [E.out], 0, rfl⟩
            · have hlt' : ¬ ((x : Int) < (p.size : Int)) := by omega
              have hd : decide ((x : Int) < (p.size : Int)) = false := by simp; omega
              have E := Lib.hid (show goes p x = false from by simp [goes, hlt])
              go_wp2_with fail
              go_meet
              case rel => exact ⟨by rw [E.out], 0, rfl⟩
          case rest =>
            obtain ⟨rfl, n, rfl⟩ := hcut
            cases hg : goes p x with
            | false =>
              have E := Lib.hid (rgo_stop R hg)
              clear hg
              go_wp2_with fail
              go_meet
              case rel => exact ⟨x, R, hxle, hRl, rfl, rfl, hT.drewN n, E.out.symm.trans HF.out⟩
            | true =>
              have hx := goes_lt hg
              have hb0 : ∀ w, (Instr.build 47 #[]).run Try.prog w = .ok (.agg (pc 0 nof)) w := fun w => run_build w _ _ _ builtPc0
              have hT2 := hT.drewN n
              obtain ⟨lo, hlo⟩ : ∃ lo : Nat, byteV p x = (lo : Int) := ⟨(byteV p x).toNat, by have := byteV_range p x; omega⟩
              have hlo2 : lo ≤ 255 := by have := byteV_range p x; omega
              cases hbad : escBad p x with
              | true =>
                have E := Lib.hid (brk_fail HNO.out HG.out HA.out HF.out (rgo_bad R hg hbad))
                have hno := Lib.hid (show byteOk p x = false from by unfold byteOk; rw [hg, hbad]; rfl)
                clear hg hbad
                go_wp2_with (first | (go_at_call 25; refine (rbytes_no p x _ hp hxle hno.out).mono ?_; rintro e w1 ⟨rfl, n1, rfl⟩) | refine storePc rfl _ _ rfl _ _ _ rfl rfl 0 nof hT.2.1 ?_)
                refine brk_ret A 0 nof (hT.1.drewN _) hT.2.1 rfl ?_ rfl
                rw [E.out]
                rfl
              | false =>
                have hok := Lib.hid (show byteOk p x = true from by unfold byteOk; rw [hg, hbad]; rfl)
                obtain ⟨y, hy⟩ : ∃ y, byteA p x = y := ⟨_, rfl⟩
                have hylt : x < y := by rw [← hy]; exact byteA_lt p x
                have hyle : y ≤ p.size := by rw [← hy]; exact byteA_le p x hx
                go_upto_region 12 with (go_at_call 25; refine (rbytes_ok p x _ hp hok.out).mono ?_; rw [hlo, hy]; rintro e w1 ⟨rfl, n1, rfl⟩)
                go_cut [70] (fun v70 wc => v70 = .bool (dash p y) ∧ ∃ n, wc = wr.drewN n)
                case first =>
                  by_cases hlt : y + 1 < p.size
                  · have hbt := bt_at p y (by omega)
                    have hbt1 := bt_at p (y + 1) hlt
                    have E := Lib.hid (show ((bt p y == 45) && (bt p (y + 1) != 93)) = dash p y from by simp [dash, hlt])
                    have hlt' : (y : Int) + 1 < (p.size : Int) := by omega
                    have hlt0 : (y : Int) < (p.size : Int) := by omega
                    have hd : decide ((y : Int) + 1 < (p.size : Int)) = true := by simp; omega
                    cases h45 : (bt p y == 45)
                    · have E2 := Lib.hid (show dash p y = false from by rw [← E.out, h45]; rfl)
                      go_wp2_with fail
                      go_meet
                      case rel => exact ⟨by rw [E2.out], _, rfl⟩
                    · have E2 := Lib.hid (show dash p y = (bt p (y + 1) != 93) from by rw [← E.out, h45]; rfl)
                      go_wp2_with fail
                      go_meet
                      case rel => exact ⟨by rw [E2.out], _, rfl⟩
                  · have hlt' : ¬ ((y : Int) + 1 < (p.size : Int)) := by omega
                    have hd : decide ((y : Int) + 1 < (p.size : Int)) = false := by simp; omega
                    have E := Lib.hid (show dash p y = false from by simp [dash, hlt])
                    go_wp2_with fail
                    go_meet
                    case rel => exact ⟨by rw [E.out], _, rfl⟩
                case rest =>
                  obtain ⟨rfl, n2, rfl⟩ := hcut
                  go_upto_if 70 with (fail)
                  go_cut [12, 14] (fun v12 v14 wc => ∃ y2 hi : Nat, v12 = .int .i64 (y2 : Int) ∧ v14 = .int .u8 (hi : Int) ∧ lo ≤ hi ∧ hi ≤ 255 ∧ x < y2 ∧ y2 ≤ p.size ∧ (∃ n, wc = wr.drewN n) ∧ rgo p y2 (R ++ [((lo : Int), (hi : Int))]) = G)
                  case first =>
                    cases hd : dash p y with
                    | false =>
                      have E := Lib.hid (show rgo p y (R ++ [((lo : Int), (lo : Int))]) = G from by rw [← HF.out, rgo_one R hg hbad (by rw [hy]; exact hd), hlo, hy])
                      clear hg hbad hd
                      go_wp2_with fail
                      go_meet
                      case rel => exact ⟨y, lo, rfl, rfl, Nat.le_refl _, hlo2, hylt, hyle, ⟨_, rfl⟩, E.out⟩
                    | true =>
                      have hlt := dash_lt hd
                      have hgo1 := dash_goes hd
                      obtain ⟨hi, hhi⟩ : ∃ hi : Nat, byteV p (y + 1) = (hi : Int) := ⟨(byteV p (y + 1)).toNat, by have := byteV_range p (y + 1); omega⟩
                      have hhi2 : hi ≤ 255 := by have := byteV_range p (y + 1); omega
                      obtain ⟨y2, hy2⟩ : ∃ y2, byteA p (y + 1) = y2 := ⟨_, rfl⟩
                      have hy2lt : y + 1 < y2 := by rw [← hy2]; exact byteA_lt p (y + 1)
                      have hy2le : y2 ≤ p.size := by rw [← hy2]; exact byteA_le p (y + 1) (by omega)
                      cases hbad2 : escBad p (y + 1) with
                      | true =>
                        have E := Lib.hid (brk_fail HNO.out HG.out HA.out HF.out (rgo_bad2 R hg hbad (by rw [hy]; exact hd) (by rw [hy]; exact hbad2)))
                        have hno := Lib.hid (show byteOk p (y + 1) = false from by unfold byteOk; rw [hgo1, hbad2]; rfl)
                        clear hg hbad hd hbad2 hgo1
                        go_wp2_with (first | (go_at_call 25; refine (rbytes_no p (y + 1) _ hp (by omega) hno.out).mono ?_; rintro e w1 ⟨rfl, n3, rfl⟩) | refine storePc rfl _ _ rfl _ _ _ rfl rfl 0 nof hT.2.1 ?_)
                        refine brk_ret A 0 nof (hT.1.drewN _) hT.2.1 rfl ?_ rfl
                        rw [E.out]
                        rfl
                      | false =>
                        have hok2 := Lib.hid (show byteOk p (y + 1) = true from by unfold byteOk; rw [hgo1, hbad2]; rfl)
                        by_cases hlh : hi < lo
                        · have E := Lib.hid (brk_fail HNO.out HG.out HA.out HF.out (rgo_turned R hg hbad (by rw [hy]; exact hd) (by rw [hy]; exact hbad2) (by rw [hy, hhi, hlo]; omega)))
                          have hlh' : (hi : Int) < (lo : Int) := by omega
                          have hd1 : decide ((hi : Int) < (lo : Int)) = true := by simp; omega
                          clear hg hbad hd hbad2 hgo1
                          go_wp2_with (first | (go_at_call 25; refine (rbytes_ok p (y + 1) _ hp hok2.out).mono ?_; rw [hhi, hy2]; rintro e w1 ⟨rfl, n3, rfl⟩) | refine storePc rfl _ _ rfl _ _ _ rfl rfl 0 nof hT.2.1 ?_)
                          refine brk_ret A 0 nof (hT.1.drewN _) hT.2.1 rfl ?_ rfl
                          rw [E.out]
                          rfl
                        · have E := Lib.hid (show rgo p y2 (R ++ [((lo : Int), (hi : Int))]) = G from by rw [← HF.out, rgo_two R hg hbad (by rw [hy]; exact hd) (by rw [hy]; exact hbad2) (by rw [hy, hhi, hlo]; omega), hy, hlo, hhi, hy2])
                          have hlh' : ¬ (hi : Int) < (lo : Int) := by omega
                          have hd1 : decide ((hi : Int) < (lo : Int)) = false := by simp; omega
                          clear hg hbad hd hbad2 hgo1
                          go_wp2_with (go_at_call 25; refine (rbytes_ok p (y + 1) _ hp hok2.out).mono ?_; rw [hhi, hy2]; rintro e w1 ⟨rfl, n3, rfl⟩)
                          go_meet
                          case rel => exact ⟨y2, hi, rfl, rfl, by omega, hhi2, by omega, hy2le, ⟨_, rfl⟩, E.out⟩
                  case rest =>
                    obtain ⟨y2, hi, rfl, rfl, hlh, hhi, hxy2, hy2le, ⟨n3, rfl⟩, hF2⟩ := hcut
                    have HF2 := Lib.hid hF2
                    clear hF2 hg hbad
                    have hT3 := hT.drewN n3
                    obtain ⟨w3, hw3⟩ : ∃ w3, w3 = wr.drewN n3 := ⟨_, rfl⟩
                    rw [← hw3] at hT3 ⊢
                    clear hw3
                    go_upto_block 2 with (fail)
                    go_cut [] (fun wc => Two w (inR (R ++ [((lo : Int), (hi : Int))])) wc)
                    case first =>
                      go_wp2_with fail
                      go_loopg [15] (hi + 1 - lo) (fun k v15 wq => ∃ c : Nat, k = hi + 1 - c ∧ lo ≤ c ∧ c ≤ hi + 1 ∧ v15 = .int .i64 (c : Int) ∧ Two w (fillR R lo c) wq)
                      case atStart => exact ⟨lo, rfl, Nat.le_refl _, by omega, rfl, by rw [fillR_start]; exact hT3⟩
                      case round =>
                        obtain ⟨c, hkc, hc1, hc2, rfl, hTq⟩ := hrel
                        have HKC := Lib.hid hkc
                        clear hkc
                        by_cases hch : c ≤ hi
                        · have hch' : (c : Int) ≤ (hi : Int) := by omega
                          have hd : decide ((c : Int) ≤ (hi : Int)) = true := by simp; omega
                          have h256 : (c : Int) < 256 := by omega
                          have hcell := hTq.cell c (by omega)
                          have hfree := hTq.free (1 + c)
                          have hset := hTq.set c true (fillR_step R lo c hc1)
                          go_wp2_with fail
                          go_roundg (hi + 1 - (c + 1))
                          case measure => have := HKC.out; omega
                          case rel => exact ⟨c + 1, rfl, by omega, by omega, by first | rfl | simp, hset⟩
                        · have hch' : ¬ (c : Int) ≤ (hi : Int) := by omega
                          have hd : decide ((c : Int) ≤ (hi : Int)) = false := by simp; omega
                          have E := Lib.hid (show Two w (inR (R ++ [((lo : Int), (hi : Int))])) wr from by rw [← fillR_end, show hi + 1 = c from by omega]; exact hTq)
                          go_wp2_with fail
                          go_meet
                          case rel => exact E.out
                    case rest =>
                      have hT4 := hcut
                      have hR2 : (R ++ [((lo : Int), (hi : Int))]).length = R.length + 1 := by simp
                      go_wp2_with fail
                      go_roundg (p.size - y2)
                      case measure => have := HKX.out; omega
                      case rel => exact ⟨y2, _, rfl, hy2le, by omega, rfl, by rw [hR2]; first | rfl | simp, hT4, HF2.out⟩
      case rest =>
        obtain ⟨x, R, hxle, hRl, rfl, rfl, hT, hF⟩ := hcut
        have HF := Lib.hid hF
        clear hF
        have hbld : ∀ w, (Instr.build 47 #[]).run Try.prog w = .ok (.agg (pc 0 nof)) w := fun w => run_build w _ _ _ builtPc0
        by_cases hend : x < p.size ∧ R ≠ []
        · have E := Lib.hid (brk_shut HNO.out HG.out HA.out HF.out |>.trans (if_pos hend))
          have hlt' : ¬ ((p.size : Int) ≤ (x : Int)) := by omega
          have hd : decide ((p.size : Int) ≤ (x : Int)) = false := by simp; omega
          have hRpos : 0 < R.length := List.length_pos_iff.2 hend.2
          have hR0 : ((R.length : Int) == 0) = false := by simp; exact hend.2
          clear hend hbld
          go_upto_block 4 with (fail)
          go_cut [] (fun wc => Two w (turnR R no 256) wc)
          case first =>
            go_wp2_with fail
            go_loopg [16] 256 (fun k v16 wq => ∃ c : Nat, k = 256 - c ∧ c ≤ 256 ∧ v16 = .int .i64 (c : Int) ∧ Two w (turnR R no c) wq)
            case atStart => exact ⟨0, rfl, by omega, rfl, by rw [turnR_start]; exact hT⟩
            case round =>
              obtain ⟨c, hkc, hc2, rfl, hTq⟩ := hrel
              have HKC := Lib.hid hkc
              clear hkc
              by_cases hch : c < 256
              · have hch' : (c : Int) < 256 := by omega
                have hd : decide ((c : Int) < 256) = true := by simp; omega
                obtain ⟨bb, hbb⟩ : ∃ bb, inR R c = bb := ⟨_, rfl⟩
                have hcell := hTq.cell c (by omega)
                rw [turnR_at, hbb] at hcell
                have hfree := hTq.free (1 + c)
                have e47 : ((c : Int) != 47) = (c != 47) := by rw [Bool.eq_iff_iff]; simp; omega
                have hset : Two w (turnR R no (c + 1)) (wr.setCell ⟨w.heap.size + 1, 1 + c, none⟩ (.bool ((bb != no) && ((c : Int) != 47)))) := by
                  rw [e47]
                  exact hTq.set c ((bb != no) && (c != 47)) (by rw [← hbb]; exact turnR_step R no c)
                have HS := Lib.hid hset
                clear e47 hset hbb
                cases no <;> cases bb
                all_goals
                  go_wp2_with fail
                  go_roundg (256 - (c + 1))
                  case measure => have := HKC.out; omega
                  case rel => exact ⟨c + 1, rfl, by omega, by first | rfl | simp, HS.out⟩
              · have hch' : ¬ (c : Int) < 256 := by omega
                have hd : decide ((c : Int) < 256) = false := by simp; omega
                have E2 := Lib.hid (show Two w (turnR R no 256) wr from by rw [show 256 = c from by omega]; exact hTq)
                go_wp2_with fail
                go_meet
                case rel => exact E2.out
          case rest =>
            have hT4 := hcut
            go_wp2_with (first | refine loadPc rfl _ rfl _ rfl 0 (turnR R no 256) hT4.2.2 ?_ | refine storePc rfl _ _ rfl _ _ _ rfl rfl 0 nof hT4.2.1 ?_)
            refine brk_ret A 0 (turnR R no 256) hT4.1 hT4.2.1 rfl ?_ rfl
            rw [E.out]
            show brkEnd (some (x + 1, classL R no)) = _
            unfold brkEnd
            simp only []
            rw [turnR_end]
            rfl
        · have E := Lib.hid (brk_shut HNO.out HG.out HA.out HF.out |>.trans (if_neg hend))
          by_cases hlt : x < p.size
          · have hR0 : ((R.length : Int) == 0) = true := by
              simp
              by_cases hR : R = []
              · exact hR
              · exact absurd ⟨hlt, hR⟩ hend
            have hlt' : ¬ ((p.size : Int) ≤ (x : Int)) := by omega
            have hd : decide ((p.size : Int) ≤ (x : Int)) = false := by simp; omega
            clear hend
            go_wp2_with (refine storePc rfl _ _ rfl _ _ _ rfl rfl 0 nof hT.2.1 ?_)
            refine brk_ret A 0 nof hT.1 hT.2.1 rfl ?_ rfl
            rw [E.out]
            rfl
          · have hlt' : ((p.size : Int) ≤ (x : Int)) := by omega
            have hd : decide ((p.size : Int) ≤ (x : Int)) = true := by simp; omega
            clear hend
            go_wp2_with (refine storePc rfl _ _ rfl _ _ _ rfl rfl 0 nof hT.2.1 ?_)
            refine brk_ret A 0 nof hT.1 hT.2.1 rfl ?_ rfl
            rw [E.out]
            rfl
end Go.Proofs.Ytofgjlfgpnmmdaa.G
