/- Texts of this claim, joined: words and laws that the others use. -/
import Derived.Test.YtoaopjbgaehpfaaQJh
import Derived.Recover
import Derived.Defers
import Derived.WalkLawsBesides
import Derived.Laws.BytesArg
section
/- wire's writer: a job laid down. -/
namespace Go.Proofs.Ytoaopjbgaehpfaa.G
open Go.RowKit
attribute [local simp, local go_sem] alloc_drewN setCell_drewN
set_option linter.unusedVariables false
set_option linter.unusedSimpArgs false
set_option maxRecDepth 100000
/-- A writer at work: since w0 nothing old is changed; since w only what a writer may change. -/
structure WSt (w0 w : World) (g : Nat) (L : List Int) (wr : World) : Prop where
  but0 : But No w0 wr
  but : But (WS g w0.heap.size w) w wr
  wr : ∃ v, WrIn g w0.heap.size L v wr
theorem WSt.alloc {w0 w : World} {g : Nat} {L : List Int} {wr : World} (h : WSt w0 w g L wr) (o : Obj) : WSt w0 w g L (wr.alloc o) := by
  obtain ⟨v, hv⟩ := h.wr
  exact ⟨h.but0.alloc o, h.but.alloc o, v, hv.alloc o⟩
theorem WSt.lt {w0 w : World} {g : Nat} {L : List Int} {wr : World} (h : WSt w0 w g L wr) : g < wr.heap.size := by
  obtain ⟨v, hv⟩ := h.wr
  exact lt_of_block hv.cell
def Kept (g : Nat) (W w' : World) : Prop := ∀ k cs t, k ≠ g → t ≠ 5 → W.heap[k]? = some (.cells cs t (0, 0)) → w'.heap[k]? = some (.cells cs t (0, 0))
theorem kept_ws {g base : Nat} {W w' : World} (h : But (WS g base W) W w') : Kept g W w' := fun k cs t hk ht hc => (h.block k (lt_of_block hc) (WS.no hk hc ht)).trans hc
theorem Kept.but0 {g : Nat} {w0 W w' : World} (h0 : But No w0 W) (h : But (WS g w0.heap.size W) W w') (hg : w0.heap.size ≤ g) : But No w0 w' := h0.trans_ h (fun k hk hs => (WS.old hk hg hs).elim)
theorem numbersS {w0 w : World} {g : Nat} {L : List Int} {W : World} (h : WSt w0 w g L W) (hg : w0.heap.size ≤ g) (A : Option Addr) (c : Nat) (ns : List Int) (hT : IntsFar W g w0.heap.size A ns) (hl : L.length + 4 * ns.length ≤ 70000000000000) (hn : ∀ n ∈ ns, 0 ≤ n ∧ n < 268435456) :
    Calls Try.prog 30 #[.pointer (some ⟨g, 0, none⟩), .slice A ns.length c] W fun e w' => e = .returned (.tuple #[]) ∧ WSt w0 w g (L ++ bytesL ns) w' ∧ Kept g W w' := by
  obtain ⟨v, hv⟩ := h.wr
  refine (numbers0 g w0.heap.size L v A c ns W hT hl hn hv h.but0.size).mono ?_
  rintro e w' ⟨rfl, hb, hv'⟩
  exact ⟨rfl, ⟨Kept.but0 h.but0 hb hg, WS.trans h.but hb, hv'⟩, kept_ws hb⟩
/-- .. of numbers just made. -/
theorem numbersN {w0 w : World} {g : Nat} {L : List Int} {W : World} (h : WSt w0 w g L W) (hg : w0.heap.size ≤ g) (ns : List Int) (n c b : Nat) (hb : b = W.heap.size) (hnn : ns.length = n) (hl : L.length + 4 * ns.length ≤ 70000000000000) (hn : ∀ n ∈ ns, 0 ≤ n ∧ n < 268435456) :
    Calls Try.prog 30 #[.pointer (some ⟨g, 0, none⟩), .slice (some ⟨b, 0, none⟩) n c] (W.alloc (.cells (ns.map (Value.int .i64)).toArray 3)) fun e w' => e = .returned (.tuple #[]) ∧ WSt w0 w g (L ++ bytesL ns) w' ∧ Kept g W w' := by
  subst hnn
  refine (numbersS (h.alloc _) hg (some ⟨b, 0, none⟩) c ns (intsFar_new W g w0.heap.size ns b hb h.lt) hl hn).mono ?_
  rintro e w' ⟨he, h1, h2⟩
  exact ⟨he, h1, fun k cs t hk ht hc => h2 k cs t hk ht (blkold hc _)⟩
/-- What a job's bytes are. -/
def stepW (x : Int × Int) : List Int := bytesL [x.1] ++ (if saysB x.1 = true then bytesL [x.2] else [])
def ruleW (r : List (Int × Int) × Int) : List Int := bytesL [r.2, (r.1.length : Int)] ++ r.1.flatMap stepW
def varW (v : Int × Int) : List Int := bytesL [v.1, v.2]
def jobW (j : JobP) : List Int := bytesL [j.one.name, j.one.run, j.one.stage, j.one.when_, j.one.weight] ++ bytesL [if j.allow = true then 1 else 0, (j.rules.length : Int)] ++ j.rules.flatMap ruleW ++ bytesL [(j.vars.length : Int)] ++ j.vars.flatMap varW ++ bytesL [(j.preds.length : Int)] ++ bytesL j.preds
def In28 (n : Int) : Prop := 0 ≤ n ∧ n < 268435456
structure JobNums (j : JobP) : Prop where
  rules : j.rules.length ≤ 16
  vars : j.vars.length ≤ 256
  preds : j.preds.length ≤ 256
  codes : ∀ r ∈ j.rules, r.1.length ≤ 1024
  name : In28 j.one.name
  run : In28 j.one.run
  stage : In28 j.one.stage
  when_ : In28 j.one.when_
  weight : In28 j.one.weight
  whens : ∀ r ∈ j.rules, In28 r.2
  steps : ∀ r ∈ j.rules, ∀ x ∈ r.1, In28 x.1 ∧ In28 x.2
  names : ∀ v ∈ j.vars, In28 v.1 ∧ In28 v.2
  froms : ∀ p ∈ j.preds, In28 p
theorem flat_len {α : Type} {f : α → List Int} {B : Nat} : ∀ l : List α, (∀ x ∈ l, (f x).length ≤ B) → (l.flatMap f).length ≤ B * l.length
  | [], _ => by simp
  | a :: l, hf => by
    rw [List.flatMap_cons, List.length_append, List.length_cons, Nat.mul_add, Nat.mul_one]
    have := hf a (by simp)
    have := flat_len l (fun x hx => hf x (List.mem_cons_of_mem _ hx))
    omega
theorem flat_len_take {α : Type} {f : α → List Int} {B n : Nat} {l : List α} (h : ∀ x ∈ l, (f x).length ≤ B) (hn : l.length ≤ n) (i : Nat) : ((l.take i).flatMap f).length ≤ B * n := by
  have h1 := flat_len (l.take i) (fun x hx => h x (List.mem_of_mem_take hx))
  refine Nat.le_trans h1 (Nat.mul_le_mul_left _ ?_)
  rw [List.length_take]
  omega
theorem flat_take {α : Type} {f : α → List Int} {l : List α} {i : Nat} (h : i < l.length) : (l.take (i + 1)).flatMap f = (l.take i).flatMap f ++ f l[i] := by
  rw [List.take_succ_eq_append_getElem h, List.flatMap_append]
  simp
theorem stepW_len (x : Int × Int) : (stepW x).length ≤ 8 := by
  unfold stepW
  have h1 := bytesL_len [x.1]
  have h2 := bytesL_len [x.2]
  rw [List.length_append]
  simp only [List.length_cons, List.length_nil] at h1 h2
  split
  · omega
  · simp only [List.length_nil]; omega
theorem varW_len (x : Int × Int) : (varW x).length ≤ 8 := by
  have h1 := bytesL_len [x.1, x.2]
  simp only [List.length_cons, List.length_nil] at h1
  unfold varW
  omega
theorem ruleW_len {r : List (Int × Int) × Int} (h : r.1.length ≤ 1024) : (ruleW r).length ≤ 8200 := by
  have h1 := bytesL_len [r.2, (r.1.length : Int)]
  have h2 := flat_len (f := stepW) (B := 8) r.1 (fun x _ => stepW_len x)
  simp only [List.length_cons, List.length_nil] at h1
  unfold ruleW
  rw [List.length_append]
  omega
theorem says1 (k : Int) (w : World) : Calls Try.prog 43 #[.int .i64 k] w fun e w' => e = .returned (.bool (saysB k)) ∧ w = w' := by
  by_cases h1 : k = 1
  · subst h1
    go_enter Try.func43, Try.ntmps43
    go_wp2_with fail
    go_ret
    exact ⟨rfl, rfl⟩
  by_cases h2 : k = 2
  · subst h2
    go_enter Try.func43, Try.ntmps43
    go_wp2_with fail
    go_ret
    exact ⟨rfl, rfl⟩
  have d1 : (k == 1) = false := by simpa using h1
  have d2 : (k == 2) = false := by simpa using h2
  have E := Lib.hid (show saysB k = (k == 3) from by unfold saysB; rw [d1, d2]; rfl)
  clear h1 h2
  go_enter Try.func43, Try.ntmps43
  go_wp2_with fail
  go_ret
  exact ⟨by rw [E.out]; rfl, rfl⟩
def InLoop (w0 w : World) (g : Nat) (box : Nat) (cs : Array Value) (t : TypeId) (n : Nat) (Lf : Nat → List Int) (gk : Nat) (v : Value) (wr : World) : Prop :=
  ∃ i : Nat, gk = n - i ∧ i ≤ n ∧ v = .int .i64 (i : Int) ∧ WSt w0 w g (Lf i) wr ∧ wr.heap[box]? = some (.cells cs t (0, 0))

set_option maxHeartbeats 8000000 in
theorem job0 {w0 w : World} {g : Nat} {L : List Int} (h : WSt w0 w g L w) (hg : w0.heap.size ≤ g) (j : JobP) (Ar Av Ap : Option Addr) (cr cv cp : Nat) (hR : RulesIn w0 Ar j.rules) (hV : PairsIn w0 Av j.vars) (hP : IntsIn w0 Ap j.preds) (hn : JobNums j) (hl : L.length ≤ 1000000000000) :
    Calls Try.prog 31 #[.pointer (some ⟨g, 0, none⟩), .agg #[.int .i64 j.one.name, .int .i64 j.one.run, .int .i64 j.one.stage, .int .i64 j.one.when_, .bool j.allow, .int .i64 j.one.weight, .slice Ar j.rules.length cr, .slice Av j.vars.length cv, .slice Ap j.preds.length cp]] w fun e w' => e = .returned (.tuple #[]) ∧ WSt w0 w g (L ++ jobW j) w' := by
  have hgl := h.lt
  have hne : w.heap.size ≠ g := by omega
  have hne' : ¬ g = w.heap.size := by omega
  have HS0 := Lib.hid (h.alloc (.cells #[.int .i64 j.one.name, .int .i64 j.one.run, .int .i64 j.one.stage, .int .i64 j.one.when_, .bool j.allow, .int .i64 j.one.weight, .slice Ar j.rules.length cr, .slice Av j.vars.length cv, .slice Ap j.preds.length cp] 52))
  have box0 := heap_alloc_new w (.cells #[.int .i64 j.one.name, .int .i64 j.one.run, .int .i64 j.one.stage, .int .i64 j.one.when_, .bool j.allow, .int .i64 j.one.weight, .slice Ar j.rules.length cr, .slice Av j.vars.length cv, .slice Ap j.preds.length cp] 52)
  have HBX0 := Lib.hid box0
  have HR := Lib.hid hR
  have HV := Lib.hid hV
  have HP := Lib.hid hP
  have hrl := hn.rules
  have hvl := hn.vars
  have hpl := hn.preds
  have HN := Lib.hid hn
  have HI5 := Lib.hid (show ∀ n ∈ [j.one.name, j.one.run, j.one.stage, j.one.when_, j.one.weight], 0 ≤ n ∧ n < 268435456 from by
    intro n hh
    simp only [List.mem_cons, List.not_mem_nil, or_false] at hh
    rcases hh with rfl | rfl | rfl | rfl | rfl
    · exact hn.name
    · exact hn.run
    · exact hn.stage
    · exact hn.when_
    · exact hn.weight)
  have hB5 := bytesL_len [j.one.name, j.one.run, j.one.stage, j.one.when_, j.one.weight]
  simp only [List.length_cons, List.length_nil] at hB5
  generalize hF5 : bytesL [j.one.name, j.one.run, j.one.stage, j.one.when_, j.one.weight] = F5 at hB5
  have HF5 := Lib.hid hF5
  obtain ⟨al, hal⟩ : ∃ b, j.allow = b := ⟨_, rfl⟩
  obtain ⟨a, ha⟩ : ∃ a : Int, (if j.allow = true then (1 : Int) else 0) = a := ⟨_, rfl⟩
  have HA := Lib.hid ha
  have HAL := Lib.hid hal
  have HI2 := Lib.hid (show ∀ n ∈ [a, (j.rules.length : Int)], 0 ≤ n ∧ n < 268435456 from by
    intro n hh
    simp only [List.mem_cons, List.not_mem_nil, or_false] at hh
    rcases hh with rfl | rfl
    · rw [← ha]; split <;> omega
    · omega)
  have hB2 := bytesL_len [a, (j.rules.length : Int)]
  simp only [List.length_cons, List.length_nil] at hB2
  have HI1 := Lib.hid (show ∀ n ∈ [(j.vars.length : Int)], 0 ≤ n ∧ n < 268435456 from by
    intro n hh
    simp only [List.mem_cons, List.not_mem_nil, or_false] at hh
    subst hh; omega)
  have HI3 := Lib.hid (show ∀ n ∈ [(j.preds.length : Int)], 0 ≤ n ∧ n < 268435456 from by
    intro n hh
    simp only [List.mem_cons, List.not_mem_nil, or_false] at hh
    subst hh; omega)
  clear h box0 hR hV hP hn hF5 ha hal
  go_enter Try.func31, Try.ntmps31
  go_wp2_with fail
  go_at_call 30
  refine (numbersN HS0.out hg [j.one.name, j.one.run, j.one.stage, j.one.when_, j.one.weight] 5 5 (w.heap.size + 1) (by simp) rfl (by simp only [List.length_cons, List.length_nil, List.length_append]; omega) HI5.out).mono ?_
  rintro e w2 ⟨rfl, hst, hk⟩
  have HS1 := Lib.hid hst
  have box1 := hk w.heap.size _ _ hne (by decide) HBX0.out
  have p4 : w2.cell? ⟨w.heap.size, 4, none⟩ = some (.bool j.allow) := blkcell box1 4 (by simp)
  have p6 : w2.cell? ⟨w.heap.size, 6, none⟩ = some (.slice Ar j.rules.length cr) := blkcell box1 6 (by simp)
  have p7 : w2.cell? ⟨w.heap.size, 7, none⟩ = some (.slice Av j.vars.length cv) := blkcell box1 7 (by simp)
  have p8 : w2.cell? ⟨w.heap.size, 8, none⟩ = some (.slice Ap j.preds.length cp) := blkcell box1 8 (by simp)
  have box1H := Lib.hid box1
  clear box1
  clear hst hk
  simp only []
  rw [HF5.out] at HS1
  cases al
  all_goals
    rw [HAL.out] at p4
    have ha := HA.out
    rw [HAL.out] at ha
    (first | (obtain rfl : a = 0 := ha.symm) | (obtain rfl : a = 1 := ha.symm))
    clear ha
    go_wp2_with fail
    go_at_call 30
    refine (numbersN HS1.out hg [_, (j.rules.length : Int)] 2 2 (w2.heap.size) (by simp) rfl (by simp only [List.length_cons, List.length_nil, List.length_append]; omega) HI2.out).mono ?_
    rintro e w2 ⟨rfl, hst, hk⟩
    have HS2 := Lib.hid hst
    have box2 := hk w.heap.size _ _ hne (by decide) box1H.out
    have p6 : w2.cell? ⟨w.heap.size, 6, none⟩ = some (.slice Ar j.rules.length cr) := blkcell box2 6 (by simp)
    have p7 : w2.cell? ⟨w.heap.size, 7, none⟩ = some (.slice Av j.vars.length cv) := blkcell box2 7 (by simp)
    have p8 : w2.cell? ⟨w.heap.size, 8, none⟩ = some (.slice Ap j.preds.length cp) := blkcell box2 8 (by simp)
    have box2H := Lib.hid box2
    clear box2
    clear hst hk
    simp only []
    obtain ⟨L2, hL2⟩ : ∃ M, M = L ++ F5 ++ bytesL [if j.allow = true then 1 else 0, (j.rules.length : Int)] := ⟨_, rfl⟩
    have HS2' := Lib.hid (show WSt w0 w g L2 w2 from by rw [hL2, HA.out]; exact HS2.out)
    have hl2 : L2.length ≤ 1000000000100 := by
      have := bytesL_len [if j.allow = true then 1 else 0, (j.rules.length : Int)]
      simp only [List.length_cons, List.length_nil] at this
      rw [hL2, List.length_append, List.length_append]
      omega
    have HL2 := Lib.hid hL2
    obtain ⟨cs, hcs⟩ : ∃ cs : Array Value, #[.int .i64 j.one.name, .int .i64 j.one.run, .int .i64 j.one.stage, .int .i64 j.one.when_, .bool j.allow, .int .i64 j.one.weight, .slice Ar j.rules.length cr, .slice Av j.vars.length cv, .slice Ap j.preds.length cp] = cs := ⟨_, rfl⟩
    have HBC := Lib.hid (show w2.heap[w.heap.size]? = some (.cells cs 52 (0, 0)) from hcs ▸ box2H.out)
    have HBK := Lib.hid hcs
    clear hL2 HS2 p4 p7 p8 hcs box2H
    go_wp2_with fail
    go_loopg [36] j.rules.length (fun gk v wr => InLoop w0 w g w.heap.size cs 52 j.rules.length (fun i => L2 ++ (j.rules.take i).flatMap ruleW) gk v wr)
    case atStart => exact ⟨0, rfl, Nat.zero_le _, rfl, by simpa using HS2'.out, HBC.out⟩
    case round =>
      obtain ⟨k, hgk, hk, rfl, hst, hbx⟩ := hrel
      have HGKr := Lib.hid hgk
      dsimp only at hst
      obtain ⟨M, hM⟩ : ∃ M, L2 ++ (j.rules.take k).flatMap ruleW = M := ⟨_, rfl⟩
      rw [hM] at hst
      have hMl : M.length ≤ 1000000200000 := by
        have := flat_len_take (f := ruleW) (B := 8200) (fun r hr => ruleW_len (HN.out.codes r hr)) hrl k
        rw [← hM, List.length_append]
        omega
      have HM := Lib.hid hM
      have HSr := Lib.hid hst
      have HBXr := Lib.hid hbx
      have hwl := hst.lt
      have hwb := lt_of_block hbx
      clear hgk hst hbx hM p6
      by_cases hltr : k < j.rules.length
      case pos =>
        obtain ⟨adr, hAr, Ac, cc, n1, n2, hPc⟩ := HR.out k hltr
        cases hAr
        have hltr' : (k : Int) < (j.rules.length : Int) := by omega
        have dlr : decide ((k : Int) < (j.rules.length : Int)) = true := decide_eq_true hltr'
        have hin := HN.out.whens _ (List.getElem_mem hltr)
        have hcl := HN.out.codes _ (List.getElem_mem hltr)
        have hst := HN.out.steps _ (List.getElem_mem hltr)
        have hTK := flat_take (f := ruleW) hltr
        obtain ⟨⟨code, wh⟩, hv⟩ : ∃ v, j.rules[k] = v := ⟨_, rfl⟩
        rw [hv] at n1 n2 hin hPc hcl hst hTK
        dsimp only at n1 n2 hin hPc hcl hst
        have HTK := Lib.hid hTK
        have n1' := HSr.out.but0.cell_some n1 (fun c => c)
        have n2' := HSr.out.but0.cell_some n2 (fun c => c)
        have HPC := Lib.hid hPc
        have HST := Lib.hid hst
        have HIR := Lib.hid (show ∀ n ∈ [wh, (code.length : Int)], 0 ≤ n ∧ n < 268435456 from by
          intro n hh
          simp only [List.mem_cons, List.not_mem_nil, or_false] at hh
          rcases hh with rfl | rfl
          · exact hin
          · omega)
        have HSa := Lib.hid (HSr.out.alloc (.cells #[.slice Ac code.length cc, .int .i64 wh] 58))
        have HB6a := Lib.hid (heap_alloc_new wr (.cells #[.slice Ac code.length cc, .int .i64 wh] 58))
        have HB3a := Lib.hid (blkold HBXr.out (.cells #[.slice Ac code.length cc, .int .i64 wh] 58))
        have hne6 : wr.heap.size ≠ g := by omega
        clear hv hTK n1 n2 hin hPc hst
        go_wp2_with fail
        go_at_call 30
        refine (numbersN HSa.out hg [wh, (code.length : Int)] 2 2 (wr.heap.size + 1) (by simp) rfl (by simp only [List.length_cons, List.length_nil, List.length_append]; omega) HIR.out).mono ?_
        rintro e w2 ⟨rfl, hst, hk⟩
        have HS3 := Lib.hid hst
        have box3 := hk wr.heap.size _ _ hne6 (by decide) HB6a.out
        have p0 : w2.cell? ⟨wr.heap.size, 0, none⟩ = some (.slice Ac code.length cc) := blkcell box3 0 (by simp)
        have box3H := Lib.hid box3
        clear box3
        have box4 := hk w.heap.size _ _ hne (by decide) HB3a.out
        have box4H := Lib.hid box4
        clear box4
        clear hst hk
        simp only []
        clear n1' n2'
        obtain ⟨L3, hL3⟩ : ∃ N, M ++ bytesL [wh, (code.length : Int)] = N := ⟨_, rfl⟩
        have HS3' := Lib.hid (show WSt w0 w g L3 w2 from hL3 ▸ HS3.out)
        have hl3 : L3.length ≤ 1000000300000 := by
          have := bytesL_len [wh, (code.length : Int)]
          simp only [List.length_cons, List.length_nil] at this
          rw [← hL3, List.length_append]
          omega
        have HL3 := Lib.hid hL3
        clear hL3 HS3
        go_wp2_with fail
        go_loopg [51] code.length (fun gk v wr => InLoop w0 w g w.heap.size cs 52 code.length (fun m => L3 ++ (code.take m).flatMap stepW) gk v wr)
        case atStart => exact ⟨0, rfl, Nat.zero_le _, rfl, by simpa using HS3'.out, box4H.out⟩
        case round =>
          obtain ⟨m, hgk, hm, rfl, hst, hbx⟩ := hrel
          have HGKs := Lib.hid hgk
          dsimp only at hst
          obtain ⟨N, hN⟩ : ∃ M, L3 ++ (code.take m).flatMap stepW = M := ⟨_, rfl⟩
          rw [hN] at hst
          have hNl : N.length ≤ 1000000400000 := by
            have := flat_len_take (f := stepW) (B := 8) (fun r hr => stepW_len r) hcl m
            rw [← hN, List.length_append]
            omega
          have HN0 := Lib.hid hN
          have HSs := Lib.hid hst
          have HBXs := Lib.hid hbx
          have hwl2 := hst.lt
          have hwb2 := lt_of_block hbx
          clear hgk hst hbx hN p0
          by_cases hlts : m < code.length
          case neg =>
            obtain rfl : m = code.length := by omega
            have hlts' : ¬ (code.length : Int) < (code.length : Int) := by omega
            have E := Lib.hid (show N = L2 ++ (j.rules.take (k + 1)).flatMap ruleW from by
              rw [HTK.out, ← List.append_assoc, HM.out, ← HN0.out, List.take_length, ← HL3.out]
              unfold ruleW
              rw [List.append_assoc])
            go_wp2_with fail
            go_roundg (j.rules.length - (k + 1))
            case measure => rw [HGKr.out]; omega
            case rel => exact ⟨k + 1, rfl, by omega, by go_num, by have := HSs.out; rw [E.out] at this; exact this, HBXs.out⟩
          obtain ⟨adc, hAc, n1, n2⟩ := HPC.out m hlts
          cases hAc
          have hlts' : (m : Int) < (code.length : Int) := by omega
          have dls : decide ((m : Int) < (code.length : Int)) = true := decide_eq_true hlts'
          have hin := HST.out _ (List.getElem_mem hlts)
          have hTS := flat_take (f := stepW) hlts
          obtain ⟨⟨xk, xt⟩, hv⟩ : ∃ v, code[m] = v := ⟨_, rfl⟩
          rw [hv] at n1 n2 hin hTS
          dsimp only at n1 n2 hin
          have HTS := Lib.hid (show L3 ++ (code.take (m + 1)).flatMap stepW = N ++ stepW (xk, xt) from by rw [hTS, ← List.append_assoc, HN0.out])
          have n1' := HSs.out.but0.cell_some n1 (fun c => c)
          have n2' := HSs.out.but0.cell_some n2 (fun c => c)
          have HIK := Lib.hid (show ∀ n ∈ [xk], 0 ≤ n ∧ n < 268435456 from by intro n hh; simp only [List.mem_cons, List.not_mem_nil, or_false] at hh; subst hh; exact hin.1)
          have HIT := Lib.hid (show ∀ n ∈ [xt], 0 ≤ n ∧ n < 268435456 from by intro n hh; simp only [List.mem_cons, List.not_mem_nil, or_false] at hh; subst hh; exact hin.2)
          have HSb := Lib.hid (HSs.out.alloc (.cells #[.int .i64 xk, .int .i64 xt] 79))
          have HB8a := Lib.hid (heap_alloc_new wr (.cells #[.int .i64 xk, .int .i64 xt] 79))
          have HB3b := Lib.hid (blkold HBXs.out (.cells #[.int .i64 xk, .int .i64 xt] 79))
          have hne8 : wr.heap.size ≠ g := by omega
          obtain ⟨b, hbb⟩ : ∃ b, saysB xk = b := ⟨_, rfl⟩
          have HSB := Lib.hid hbb
          have hk4 := bytesL_len [xk]
          simp only [List.length_cons, List.length_nil] at hk4
          clear hv hTS n1 n2 hin hbb
          go_wp2_with fail
          go_at_call 30
          refine (numbersN HSb.out hg [xk] 1 1 (wr.heap.size + 1) (by simp) rfl (by simp only [List.length_cons, List.length_nil, List.length_append]; omega) HIK.out).mono ?_
          rintro e w2 ⟨rfl, hst, hk⟩
          have HS4 := Lib.hid hst
          have box5 := hk wr.heap.size _ _ hne8 (by decide) HB8a.out
          have p0 : w2.cell? ⟨wr.heap.size, 0, none⟩ = some (.int .i64 xk) := blkcell box5 0 (by simp)
          have p1 : w2.cell? ⟨wr.heap.size, 1, none⟩ = some (.int .i64 xt) := blkcell box5 1 (by simp)
          have box5H := Lib.hid box5
          clear box5
          have box6 := hk w.heap.size _ _ hne (by decide) HB3b.out
          have box6H := Lib.hid box6
          clear box6
          clear hst hk
          simp only []
          clear n1' n2'
          cases b with
          | false =>
            have E := Lib.hid (show N ++ bytesL [xk] = L3 ++ (code.take (m + 1)).flatMap stepW from by rw [HTS.out]; unfold stepW; rw [if_neg (by rw [HSB.out]; decide), List.append_nil])
            go_wp2_with (first | (go_at_call 43; refine (says1 xk _).mono ?_; rw [HSB.out]; rintro e w3 ⟨rfl, rfl⟩))
            go_roundg (code.length - (m + 1))
            case measure => rw [HGKs.out]; omega
            case rel => exact ⟨m + 1, rfl, by omega, by go_num, by have := HS4.out; rw [E.out] at this; exact this, box6H.out⟩
          | true =>
            have E := Lib.hid (show N ++ bytesL [xk] ++ bytesL [xt] = L3 ++ (code.take (m + 1)).flatMap stepW from by rw [HTS.out]; unfold stepW; rw [if_pos HSB.out, List.append_assoc])
            go_wp2_with (first | (go_at_call 43; refine (says1 xk _).mono ?_; rw [HSB.out]; rintro e w3 ⟨rfl, rfl⟩))
            go_at_call 30
            refine (numbersN HS4.out hg [xt] 1 1 (w2.heap.size) (by simp) rfl (by simp only [List.length_cons, List.length_nil, List.length_append]; omega) HIT.out).mono ?_
            rintro e w2 ⟨rfl, hst, hk⟩
            have HS5 := Lib.hid hst
            have box7 := hk w.heap.size _ _ hne (by decide) box6H.out
            have box7H := Lib.hid box7
            clear box7
            clear hst hk
            simp only []
            go_wp2_with fail
            go_roundg (code.length - (m + 1))
            case measure => rw [HGKs.out]; omega
            case rel => exact ⟨m + 1, rfl, by omega, by go_num, by have := HS5.out; rw [E.out] at this; exact this, box7H.out⟩
      case neg =>
        obtain rfl : k = j.rules.length := by omega
        have hltr' : ¬ (j.rules.length : Int) < (j.rules.length : Int) := by omega
        have E2 := Lib.hid (show M = L2 ++ j.rules.flatMap ruleW from by rw [← HM.out, List.take_length])
        have hbx := HBXr.out
        rw [← HBK.out] at hbx
        have p7 : wr.cell? ⟨w.heap.size, 7, none⟩ = some (.slice Av j.vars.length cv) := blkcell hbx 7 (by simp)
        have p8 : wr.cell? ⟨w.heap.size, 8, none⟩ = some (.slice Ap j.preds.length cp) := blkcell hbx 8 (by simp)
        have HBX8 := Lib.hid hbx
        clear hbx
        go_wp2_with fail
        go_at_call 30
        refine (numbersN HSr.out hg [(j.vars.length : Int)] 1 1 (wr.heap.size) (by simp) rfl (by simp only [List.length_cons, List.length_nil, List.length_append]; omega) HI1.out).mono ?_
        rintro e w2 ⟨rfl, hst, hk⟩
        have HS6 := Lib.hid hst
        have box8 := hk w.heap.size _ _ hne (by decide) HBX8.out
        have p7 : w2.cell? ⟨w.heap.size, 7, none⟩ = some (.slice Av j.vars.length cv) := blkcell box8 7 (by simp)
        have p8 : w2.cell? ⟨w.heap.size, 8, none⟩ = some (.slice Ap j.preds.length cp) := blkcell box8 8 (by simp)
        have box8H := Lib.hid box8
        clear box8
        clear hst hk
        simp only []
        obtain ⟨L4, hL4⟩ : ∃ N, M ++ bytesL [(j.vars.length : Int)] = N := ⟨_, rfl⟩
        have HS6' := Lib.hid (show WSt w0 w g L4 w2 from hL4 ▸ HS6.out)
        have hl4 : L4.length ≤ 1000000300000 := by
          have := bytesL_len [(j.vars.length : Int)]
          simp only [List.length_cons, List.length_nil] at this
          rw [← hL4, List.length_append]
          omega
        have HL4 := Lib.hid hL4
        clear hL4 HS6 p8
        go_wp2_with fail
        go_loopg [79] j.vars.length (fun gk v wr => InLoop w0 w g w.heap.size #[.int .i64 j.one.name, .int .i64 j.one.run, .int .i64 j.one.stage, .int .i64 j.one.when_, .bool j.allow, .int .i64 j.one.weight, .slice Ar j.rules.length cr, .slice Av j.vars.length cv, .slice Ap j.preds.length cp] 52 j.vars.length (fun m => L4 ++ (j.vars.take m).flatMap varW) gk v wr)
        case atStart => exact ⟨0, rfl, Nat.zero_le _, rfl, by simpa using HS6'.out, box8H.out⟩
        case round =>
          obtain ⟨m, hgk, hm, rfl, hst, hbx⟩ := hrel
          have HGKs := Lib.hid hgk
          dsimp only at hst
          obtain ⟨N, hN⟩ : ∃ M, L4 ++ (j.vars.take m).flatMap varW = M := ⟨_, rfl⟩
          rw [hN] at hst
          have hNl : N.length ≤ 1000000400000 := by
            have := flat_len_take (f := varW) (B := 8) (fun r hr => varW_len r) hvl m
            rw [← hN, List.length_append]
            omega
          have HN0 := Lib.hid hN
          have HSs := Lib.hid hst
          have HBXs := Lib.hid hbx
          have p8 : wr.cell? ⟨w.heap.size, 8, none⟩ = some (.slice Ap j.preds.length cp) := blkcell hbx 8 (by simp)
          have hwl2 := hst.lt
          have hwb2 := lt_of_block hbx
          clear hgk hst hbx hN p7
          by_cases hlts : m < j.vars.length
          case pos =>
            obtain ⟨adv, hAv, n1, n2⟩ := HV.out m hlts
            cases hAv
            have hlts' : (m : Int) < (j.vars.length : Int) := by omega
            have dls : decide ((m : Int) < (j.vars.length : Int)) = true := decide_eq_true hlts'
            have hin := HN.out.names _ (List.getElem_mem hlts)
            have hTS := flat_take (f := varW) hlts
            obtain ⟨⟨vn, vl⟩, hv⟩ : ∃ v, j.vars[m] = v := ⟨_, rfl⟩
            rw [hv] at n1 n2 hin hTS
            dsimp only at n1 n2 hin
            have HTS := Lib.hid (show N ++ bytesL [vn, vl] = L4 ++ (j.vars.take (m + 1)).flatMap varW from by rw [hTS, ← List.append_assoc, HN0.out]; rfl)
            have n1' := HSs.out.but0.cell_some n1 (fun c => c)
            have n2' := HSs.out.but0.cell_some n2 (fun c => c)
            have HIV := Lib.hid (show ∀ n ∈ [vn, vl], 0 ≤ n ∧ n < 268435456 from by
              intro n hh
              simp only [List.mem_cons, List.not_mem_nil, or_false] at hh
              rcases hh with rfl | rfl
              · exact hin.1
              · exact hin.2)
            have HSb := Lib.hid (HSs.out.alloc (.cells #[.int .i64 vn, .int .i64 vl] 81))
            have HB3b := Lib.hid (blkold HBXs.out (.cells #[.int .i64 vn, .int .i64 vl] 81))
            clear hv hTS n1 n2 hin p8
            go_wp2_with fail
            go_at_call 30
            refine (numbersN HSb.out hg [vn, vl] 2 2 (wr.heap.size + 1) (by simp) rfl (by simp only [List.length_cons, List.length_nil, List.length_append]; omega) HIV.out).mono ?_
            rintro e w2 ⟨rfl, hst, hk⟩
            have HS7 := Lib.hid hst
            have box9 := hk w.heap.size _ _ hne (by decide) HB3b.out
            have box9H := Lib.hid box9
            clear box9
            clear hst hk
            simp only []
            clear n1' n2'
            go_wp2_with fail
            go_roundg (j.vars.length - (m + 1))
            case measure => rw [HGKs.out]; omega
            case rel => exact ⟨m + 1, rfl, by omega, by go_num, by have := HS7.out; rw [HTS.out] at this; exact this, box9H.out⟩
          obtain rfl : m = j.vars.length := by omega
          have hlts' : ¬ (j.vars.length : Int) < (j.vars.length : Int) := by omega
          have E3 := Lib.hid (show N = L4 ++ j.vars.flatMap varW from by rw [← HN0.out, List.take_length])
          go_wp2_with fail
          go_at_call 30
          refine (numbersN HSs.out hg [(j.preds.length : Int)] 1 1 (wr.heap.size) (by simp) rfl (by simp only [List.length_cons, List.length_nil, List.length_append]; omega) HI3.out).mono ?_
          rintro e w2 ⟨rfl, hst, hk⟩
          have HS8 := Lib.hid hst
          have box10 := hk w.heap.size _ _ hne (by decide) HBXs.out
          have p8 : w2.cell? ⟨w.heap.size, 8, none⟩ = some (.slice Ap j.preds.length cp) := blkcell box10 8 (by simp)
          have box10H := Lib.hid box10
          clear box10
          clear hst hk
          simp only []
          go_wp2_with fail
          go_at_call 30
          refine (numbersS HS8.out hg Ap cp j.preds (intsFar_old HP.out HS8.out.but0 hg) (by have := bytesL_len [(j.preds.length : Int)]; simp only [List.length_cons, List.length_nil] at this; rw [List.length_append]; omega) HN.out.froms).mono ?_
          rintro e w3 ⟨rfl, hst, hk⟩
          have HS9 := Lib.hid hst
          clear hst hk
          simp only []
          go_wp2_with fail
          go_end0
          refine ⟨rfl, ?_⟩
          have hfin := HS9.out
          rw [E3.out, ← HL4.out, E2.out, HL2.out, ← HF5.out] at hfin
          unfold jobW
          simpa only [List.append_assoc] using hfin
end Go.Proofs.Ytoaopjbgaehpfaa.G
end
section
/- wire.Encode: a plan laid into bytes. -/
namespace Go.Proofs.Ytoaopjbgaehpfaa.G
open Go.RowKit
attribute [local simp, local go_sem] alloc_drewN setCell_drewN
set_option linter.unusedVariables false
set_option linter.unusedSimpArgs false
set_option maxRecDepth 100000
def byts (x : ByteArray) : List Int := x.data.toList.map fun b => (b.toNat : Int)
theorem byts_len (x : ByteArray) : (byts x).length = x.size := by
  unfold byts
  rw [List.length_map, Array.length_toList]
  rfl
theorem byts_cells (x : ByteArray) : byE.cells (byts x) = Lib.strCells x := by
  unfold byts Lib.strCells El.cells
  generalize x.data.toList = l
  induction l with
  | nil => rfl
  | cons a l ih =>
    rw [List.map_cons, List.flatMap_cons, ih, List.map_cons]
    rfl
theorem appendS {ops : Array Oper} {rest : List Oper} {o : Oper} {a : Act} {W : World} {Q : Exit → Act → World → Prop} (hgd : o.guard = none) (s y : Operand)
    (ho : o.op = .call { callee := .builtin .append, args := #[s, y], argTypes := #[26, 9] })
    (base : Nat) (v : Value) (l : List Int) (hs : a.eval s = v) (hI : byE.Own W base v l) (x : ByteArray) (hy : a.eval y = .string x) (hl : l.length + x.size ≤ 140737488355328) (hb : base ≤ W.heap.size)
    (h : ∀ v' w', byE.Own w' base v' (l ++ byts x) → W.grownBy w' v.ownBlock → wpList Try.prog ops Q rest (a.put o.dst v') w') : wpList Try.prog ops Q (o :: rest) a W := by
  obtain ⟨i, h1, h2, h3, h4⟩ := info_get byE.hi
  refine Lib.wpList_append_own_string W hgd s y 26 9 ho base 5 i Try.underlying26 Try.underlying9 h1 h2 h3 h4 v l.length (byE.cells l) hs hI x hy (by unfold maxLen; omega) hl hb (fun v' w' k1 k2 _ => h v' w' ?_ k2)
  unfold El.Own
  rw [List.length_append, byts_len, El.cells_append, byts_cells]
  exact k1
theorem stepC_kind {st st' : List Prt} {k : Int} {tx : ByteArray} (h : stepC st k tx = some st') : 1 ≤ k ∧ k ≤ 13 := by
  refine Classical.byContradiction fun hn => ?_
  unfold stepC at h
  dsimp only at h
  rw [if_neg (by omega), if_neg (by omega), if_neg (by omega), if_neg (by omega), if_neg (by omega), if_neg (by omega), if_neg (by omega), if_neg (by omega), if_neg (by omega)] at h
  cases h
theorem runC_kinds : ∀ {t : List (Int × ByteArray)} {st st' : List Prt}, runC t st = some st' → ∀ q ∈ t, 1 ≤ q.1 ∧ q.1 ≤ 13
  | [], _, _, _, q, hq => absurd hq List.not_mem_nil
  | p :: r, st, st', h, q, hq => by
    unfold runC at h
    cases h1 : stepC st p.1 p.2 with
    | none => rw [h1] at h; cases h
    | some s1 =>
      rw [h1] at h
      rcases List.mem_cons.1 hq with rfl | hq
      · exact stepC_kind h1
      · exact runC_kinds (show runC r s1 = some st' from h) q hq
theorem check_kinds {t : List (Int × ByteArray)} (h : checkB t = true) : ∀ q ∈ t, 1 ≤ q.1 ∧ q.1 ≤ 13 := by
  unfold checkB at h
  rw [Bool.and_eq_true] at h
  cases h1 : runC t [] with
  | none => rw [h1] at h; exact absurd h.2 (by decide)
  | some s => exact runC_kinds h1
theorem nums_of_job {ts : List ByteArray} {seen : List Int} {no : Nat} {j : JobP} (ht : ts.length ≤ 65536) (hn : no ≤ 256) (h : jobC ts seen no j = 0) : JobNums j := by
  have hs := small_of_job ht hn h
  obtain ⟨h1, h2, h3, h4⟩ := jobC_parts h
  unfold fieldsB at h1
  simp only [Bool.and_eq_true, decide_eq_true_eq] at h1
  obtain ⟨⟨⟨⟨⟨⟨⟨a1, a2⟩, _⟩, a3⟩, a4⟩, a5⟩, a6⟩, a7⟩ := h1
  have a1 := textB_in a1
  have a2 := textB_in a2
  have a5 := whenB_in a5
  unfold rulesB at h2
  rw [Bool.and_eq_true, decide_eq_true_eq] at h2
  have h2b := fun r hr => List.all_eq_true.1 h2.2 r hr
  unfold varsB at h3
  rw [Bool.and_eq_true, decide_eq_true_eq] at h3
  have h4b := preds_rise h4
  refine ⟨hs.rules, hs.vars, hs.preds, hs.codes, ⟨by omega, by omega⟩, ⟨by omega, by omega⟩, ⟨by omega, by omega⟩, ⟨by omega, by omega⟩, ⟨by omega, by omega⟩, ?_, ?_, ?_, ?_⟩
  · intro r hr
    have := h2b r hr
    unfold ruleB at this
    simp only [Bool.and_eq_true] at this
    have := whenB_in this.1.2
    exact ⟨by omega, by omega⟩
  · intro r hr x hx
    have := h2b r hr
    unfold ruleB at this
    simp only [Bool.and_eq_true, Bool.or_eq_true, beq_iff_eq] at this
    have hk : 1 ≤ x.1 ∧ x.1 ≤ 13 := by
      rcases this.2 with h | h
      · rw [List.eq_nil_of_length_eq_zero h] at hx
        exact absurd hx List.not_mem_nil
      · exact check_kinds h (stepOf ts x) (List.mem_map_of_mem hx)
    have := List.all_eq_true.1 this.1.1 x hx
    unfold stepOk at this
    refine ⟨⟨by omega, by omega⟩, ?_⟩
    split at this
    · have := textB_in this
      exact ⟨by omega, by omega⟩
    · have : x.2 = 0 := by simpa using this
      exact ⟨by omega, by omega⟩
  · intro v hv
    obtain ⟨i, hi, rfl⟩ := List.mem_iff_getElem.1 hv
    have := List.all_eq_true.1 h3.2 i (List.mem_range.2 hi)
    unfold varB at this
    simp only [Bool.and_eq_true] at this
    rw [List.getD_eq_getElem?_getD, List.getElem?_eq_getElem hi] at this
    have b1 := textB_in this.1.1.1
    have b2 := textB_in this.1.1.2
    simp only [Option.getD_some] at b1 b2
    exact ⟨⟨by omega, by omega⟩, ⟨by omega, by omega⟩⟩
  · intro p hp
    obtain ⟨i, hi, rfl⟩ := List.mem_iff_getElem.1 hp
    have := h4b i hi
    rw [List.getD_eq_getElem?_getD, List.getElem?_eq_getElem hi] at this
    simp only [Option.getD_some] at this
    exact ⟨by omega, by omega⟩
theorem nums_all {ts : List ByteArray} {js : List JobP} (h : partsC ts js = 0) : ∀ j ∈ js, JobNums j := fun j hj => by
  obtain ⟨h1, h2⟩ := parts_texts h
  obtain ⟨a, b, c, d⟩ := texts_fit h1
  obtain ⟨s', n', h3, h4⟩ := jobsC_all h2 j hj
  exact nums_of_job b (by omega) h3
theorem WSt.put {w0 w : World} {g : Nat} {L l' : List Int} {v v' : Value} {W w' : World} (h : WSt w0 w g L W) (hg : w0.heap.size ≤ g) (hv : WrIn g w0.heap.size L v W) (ho : byE.Own w' w0.heap.size v' l') (hgr : W.grownBy w' v.ownBlock) :
    WSt w0 w g l' (w'.setCell ⟨g, 0, none⟩ v') ∧ Kept g W (w'.setCell ⟨g, 0, none⟩ v') := by
  obtain ⟨h1, h2⟩ := hv.put ho hgr
  exact ⟨⟨Kept.but0 h.but0 h2 hg, WS.trans h.but h2, v', h1⟩, kept_ws h2⟩
def textW (s : ByteArray) : List Int := bytesL [(s.size : Int)] ++ byts s
def planW (ts : List ByteArray) (js : List JobP) : List Int := [83, 72, 85, 84, 1] ++ bytesL [(ts.length : Int)] ++ ts.flatMap textW ++ bytesL [(js.length : Int)] ++ js.flatMap jobW
theorem textW_len {s : ByteArray} (h : s.size ≤ 4096) : (textW s).length ≤ 4100 := by
  have := bytesL_len [(s.size : Int)]
  simp only [List.length_cons, List.length_nil] at this
  unfold textW
  rw [List.length_append, byts_len]
  omega
theorem jobW_len {j : JobP} (h : JobNums j) : (jobW j).length ≤ 140000 := by
  have h1 := bytesL_len [j.one.name, j.one.run, j.one.stage, j.one.when_, j.one.weight]
  have h2 := bytesL_len [if j.allow = true then 1 else 0, (j.rules.length : Int)]
  have h3 := bytesL_len [(j.vars.length : Int)]
  have h4 := bytesL_len [(j.preds.length : Int)]
  have h5 := bytesL_len j.preds
  have h6 := flat_len (f := ruleW) (B := 8200) j.rules (fun r hr => ruleW_len (h.codes r hr))
  have h7 := flat_len (f := varW) (B := 8) j.vars (fun r _ => varW_len r)
  have := h.rules
  have := h.vars
  have := h.preds
  simp only [List.length_cons, List.length_nil] at h1 h2 h3 h4
  unfold jobW
  simp only [List.length_append]
  omega
theorem head0 (w : World) : Calls Try.prog 29 #[] w fun e w' => e = .returned (.slice (some ⟨w.heap.size, 0, none⟩) 5 5) ∧ w' = w.alloc (.cells #[.int .u8 83, .int .u8 72, .int .u8 85, .int .u8 84, .int .u8 1] 5) := by
  go_enter Try.func29, Try.ntmps29
  go_wp2_with fail
  go_ret
  exact ⟨rfl, rfl⟩
theorem enc_no {w : World} {At Aj : Option Addr} {ts : List ByteArray} {js : List JobP} (ct cj : Nat) (h : PlanIn w At ts Aj js) (hok : okP ts js = false) :
    Calls Try.prog 12 #[.agg #[.slice At ts.length ct, .slice Aj js.length cj]] w fun e w' => e = .returned (.tuple #[.slice none 0 0, .int .i64 180]) ∧ Below w.heap.size w w' := by
  have HC := Lib.hid (fun W (hW : But No w W) => check_no ct cj (h.but hW) hok)
  clear h hok
  go_enter Try.func12, Try.ntmps12
  go_wp2_with (first | (go_at_call 19; refine (HC.out _ ((But.refl No w).alloc _)).mono ?_; rintro e w1 ⟨⟨n, c, hc, rfl⟩, hb⟩; (have HB1 := Lib.hid (((But.refl No w).alloc _).trans (But.of_below (S := No) hb))); clear hb))
  go_ret2
  exact ⟨rfl, HB1.out.belowNo⟩

set_option maxHeartbeats 8000000 in
theorem enc_ok {w : World} {At Aj : Option Addr} {ts : List ByteArray} {js : List JobP} (ct cj : Nat) (h : PlanIn w At ts Aj js) (hok : okP ts js = true) :
    Calls Try.prog 12 #[.agg #[.slice At ts.length ct, .slice Aj js.length cj]] w fun e w' => ∃ v, e = .returned (.tuple #[v, .int .i64 0]) ∧ byE.Own w' w.heap.size v (planW ts js) ∧ Below w.heap.size w w' := by
  have HC := Lib.hid (fun W (hW : But No w W) => check_ok ct cj (h.but hW) hok)
  unfold okP at hok
  rw [Bool.and_eq_true, decide_eq_true_eq, decide_eq_true_eq] at hok
  have hf := size_fits hok.1
  have hfn := nums_all hok.1
  have htl := hf.texts
  have hjl := hf.jobs
  have HF := Lib.hid hf
  have HFN := Lib.hid hfn
  have HT := Lib.hid h.texts
  have HJ := Lib.hid h.jobs
  have HIt := Lib.hid (show ∀ n ∈ [(ts.length : Int)], 0 ≤ n ∧ n < 268435456 from by intro n hh; simp only [List.mem_cons, List.not_mem_nil, or_false] at hh; subst hh; omega)
  have HIj := Lib.hid (show ∀ n ∈ [(js.length : Int)], 0 ≤ n ∧ n < 268435456 from by intro n hh; simp only [List.mem_cons, List.not_mem_nil, or_false] at hh; subst hh; omega)
  clear h hok hf hfn
  go_enter Try.func12, Try.ntmps12
  go_wp2_with (first | (go_at_call 19; refine (HC.out _ ((But.refl No w).alloc _)).mono ?_; rintro e w1 ⟨⟨n, rfl⟩, hb⟩; (have HBX := Lib.hid ((hb.block w.heap.size (by simp)).trans (heap_alloc_new w (.cells #[.slice At ts.length ct, .slice Aj js.length cj] 25)))); (have hq0 := (hb.cell (p := ⟨w.heap.size, 0, none⟩) (by simp)).trans (show _ = some (.slice At ts.length ct) from by go_simp)); (have hsz : w.heap.size < w1.heap.size := by (have := hb.size; simp at this; omega)); (have hq2 : ∀ o1 o2, ((w1.alloc o1).alloc o2).cell? ⟨w.heap.size, 0, none⟩ = some (.slice At ts.length ct) := fun o1 o2 => (((But.refl No w1).alloc o1).alloc o2).cell_some hq0 (fun c => c)); (have HB1 := Lib.hid (((But.refl No w).alloc _).trans (But.of_below (S := No) hb))); clear hb) | (go_at_call 29; refine (head0 _).mono ?_; rintro e w2 ⟨rfl, rfl⟩))
  obtain ⟨W1, hW1⟩ : ∃ W, (w1.alloc (.cells #[.int .u8 83, .int .u8 72, .int .u8 85, .int .u8 84, .int .u8 1] 5)).alloc (.cells #[.slice (some ⟨w1.heap.size, 0, none⟩) 5 5] 63) = W := ⟨_, rfl⟩
  have HS0 := Lib.hid (show WSt w W1 (w1.heap.size + 1) [83, 72, 85, 84, 1] W1 from by
    subst hW1
    refine ⟨(HB1.out.alloc _).alloc _, But.refl _ _, .slice (some ⟨w1.heap.size, 0, none⟩) 5 5, ?_, ?_⟩
    · have := heap_alloc_new (w1.alloc (.cells #[.int .u8 83, .int .u8 72, .int .u8 85, .int .u8 84, .int .u8 1] 5)) (.cells #[.slice (some ⟨w1.heap.size, 0, none⟩) 5 5] 63)
      simpa using this
    · refine ⟨rfl, .inr ⟨w1.heap.size, 5, _, rfl, by omega, blkold (heap_alloc_new w1 _) _, Nat.le_refl _, by unfold maxLen; omega, rfl, rfl⟩⟩)
  have HBX1 := Lib.hid (show W1.heap[w.heap.size]? = some (.cells #[.slice At ts.length ct, .slice Aj js.length cj] 25 (0, 0)) from by rw [← hW1]; exact blkold (blkold HBX.out _) _)
  have hw1s : W1.heap.size = w1.heap.size + 1 + 1 := by rw [← hW1]; simp
  have hg : w.heap.size ≤ w1.heap.size + 1 := by omega
  have hne : w.heap.size ≠ w1.heap.size + 1 := by omega
  rw [hW1]
  obtain ⟨g, hgg⟩ : ∃ g, w1.heap.size + 1 = g := ⟨_, rfl⟩
  rw [hgg] at HS0 hg hne hw1s ⊢
  clear hW1 hq0 hq2 hsz
  go_at_call 30
  refine (numbersN HS0.out hg [(ts.length : Int)] 1 1 (g + 1) (by rw [hw1s, ← hgg]) rfl (by simp only [List.length_cons, List.length_nil, List.length_append]; omega) HIt.out).mono ?_
  rintro e w2 ⟨rfl, hst, hk⟩
  have HS1 := Lib.hid hst
  have box1 := hk w.heap.size _ _ hne (by decide) HBX1.out
  have p0 : w2.cell? ⟨w.heap.size, 0, none⟩ = some (.slice At ts.length ct) := blkcell box1 0 (by simp)
  have p1 : w2.cell? ⟨w.heap.size, 1, none⟩ = some (.slice Aj js.length cj) := blkcell box1 1 (by simp)
  have box1H := Lib.hid box1
  clear box1
  clear hst hk
  simp only []
  obtain ⟨L1, hL1⟩ : ∃ M, [83, 72, 85, 84, 1] ++ bytesL [(ts.length : Int)] = M := ⟨_, rfl⟩
  have HS1' := Lib.hid (show WSt w W1 g L1 w2 from hL1 ▸ HS1.out)
  have hl1 : L1.length ≤ 100 := by
    have := bytesL_len [(ts.length : Int)]
    simp only [List.length_cons, List.length_nil] at this
    rw [← hL1, List.length_append]
    simp only [List.length_cons, List.length_nil]
    omega
  have HL1 := Lib.hid hL1
  clear hL1 HS1 hw1s
  go_wp2_with fail
  go_loopg [30] ts.length (fun gk v wr => InLoop w W1 g w.heap.size #[.slice At ts.length ct, .slice Aj js.length cj] 25 ts.length (fun i => L1 ++ (ts.take i).flatMap textW) gk v wr)
  case atStart => exact ⟨0, rfl, Nat.zero_le _, rfl, by simpa using HS1'.out, box1H.out⟩
  case round =>
    obtain ⟨k, hgk, hk, rfl, hst, hbx⟩ := hrel
    have HGK := Lib.hid hgk
    dsimp only at hst
    obtain ⟨M, hM⟩ : ∃ M, L1 ++ (ts.take k).flatMap textW = M := ⟨_, rfl⟩
    rw [hM] at hst
    have hMl : M.length ≤ 300000000 := by
      have := flat_len_take (f := textW) (B := 4100) (fun r hr => textW_len (HF.out.sizes r hr)) htl k
      rw [← hM, List.length_append]
      omega
    have HM := Lib.hid hM
    have HSr := Lib.hid hst
    have HBXr := Lib.hid hbx
    have hwl := hst.lt
    have hwb := lt_of_block hbx
    clear hgk hM p0
    by_cases hlt : k < ts.length
    case pos =>
      clear hst hbx
      obtain ⟨ad, hA, n1⟩ := HT.out k hlt
      have hlt' : (k : Int) < (ts.length : Int) := by omega
      have dlr : decide ((k : Int) < (ts.length : Int)) = true := decide_eq_true hlt'
      have hsx := HF.out.sizes _ (List.getElem_mem hlt)
      have hTK := flat_take (f := textW) hlt
      obtain ⟨x, hx⟩ : ∃ v, ts[k] = v := ⟨_, rfl⟩
      rw [hx] at n1 hsx hTK
      have HTK := Lib.hid (show M ++ bytesL [(x.size : Int)] ++ byts x = L1 ++ (ts.take (k + 1)).flatMap textW from by rw [hTK, ← List.append_assoc, HM.out, List.append_assoc]; rfl)
      have n1' := HSr.out.but0.cell_some n1 (fun c => c)
      have HIx := Lib.hid (show ∀ n ∈ [(x.size : Int)], 0 ≤ n ∧ n < 268435456 from by intro n hh; simp only [List.mem_cons, List.not_mem_nil, or_false] at hh; subst hh; omega)
      have hk4 := bytesL_len [(x.size : Int)]
      simp only [List.length_cons, List.length_nil] at hk4
      clear hx hTK n1
      subst hA
      go_wp2_with fail
      go_at_call 30
      refine (numbersN HSr.out hg [(x.size : Int)] 1 1 (wr.heap.size) (by simp) rfl (by simp only [List.length_cons, List.length_nil, List.length_append]; omega) HIx.out).mono ?_
      rintro e w2 ⟨rfl, hst, hk⟩
      have HS2 := Lib.hid hst
      have box2 := hk w.heap.size _ _ hne (by decide) HBXr.out
      have box2H := Lib.hid box2
      clear box2
      clear hst hk
      simp only []
      obtain ⟨v2, hv2⟩ := HS2.out.wr
      have HV2 := Lib.hid hv2
      have q0 : w2.cell? ⟨g, 0, none⟩ = some v2 := blkcell hv2.cell 0 (by simp)
      have qf : w2.frozen? ⟨g, 0, none⟩ = false := blkfree hv2.cell 0
      have hb2s := HS2.out.but0.size
      clear hv2 n1'
      go_wp2_with (at_builtin; go_loud (refine appendS rfl _ _ rfl w.heap.size v2 (M ++ bytesL [(x.size : Int)]) rfl HV2.out.own x rfl (by rw [List.length_append]; omega) hb2s ?_); intro v3 w3 hown hgrow; (obtain ⟨A3, n3, c3, hv3⟩ : ∃ A n c, v3 = Value.slice A n c := (by obtain ⟨A, c, h⟩ := hown.slice; exact ⟨A, _, c, h⟩)); subst hv3; (have q0' : w3.cell? ⟨g, 0, none⟩ = some v2 := blkcell (HV2.out.kept hgrow) 0 (by simp)); (have qf' : w3.frozen? ⟨g, 0, none⟩ = false := blkfree (HV2.out.kept hgrow) 0); (have HP := Lib.hid (HS2.out.put hg HV2.out hown hgrow)); clear hown hgrow)
      go_roundg (ts.length - (k + 1))
      case measure => rw [HGK.out]; omega
      case rel => exact ⟨k + 1, rfl, by omega, by go_num, by have := HP.out.1; rw [HTK.out] at this; exact this, HP.out.2 _ _ _ hne (by decide) box2H.out⟩
    case neg =>
      obtain rfl : k = ts.length := by omega
      have hlt' : ¬ (ts.length : Int) < (ts.length : Int) := by omega
      have E2 := Lib.hid (show M = L1 ++ ts.flatMap textW from by rw [← HM.out, List.take_length])
      have p1' : wr.cell? ⟨w.heap.size, 1, none⟩ = some (.slice Aj js.length cj) := blkcell hbx 1 (by simp)
      clear hst hbx p1
      go_wp2_with fail
      go_at_call 30
      refine (numbersN HSr.out hg [(js.length : Int)] 1 1 (wr.heap.size) (by simp) rfl (by simp only [List.length_cons, List.length_nil, List.length_append]; omega) HIj.out).mono ?_
      rintro e w2 ⟨rfl, hst, hk⟩
      have HS3 := Lib.hid hst
      have box3 := hk w.heap.size _ _ hne (by decide) HBXr.out
      have p1 : w2.cell? ⟨w.heap.size, 1, none⟩ = some (.slice Aj js.length cj) := blkcell box3 1 (by simp)
      have box3H := Lib.hid box3
      clear box3
      clear hst hk
      simp only []
      obtain ⟨L3, hL3⟩ : ∃ N, M ++ bytesL [(js.length : Int)] = N := ⟨_, rfl⟩
      have HS3' := Lib.hid (show WSt w W1 g L3 w2 from hL3 ▸ HS3.out)
      have hl3 : L3.length ≤ 400000000 := by
        have := bytesL_len [(js.length : Int)]
        simp only [List.length_cons, List.length_nil] at this
        rw [← hL3, List.length_append]
        omega
      have HL3 := Lib.hid hL3
      clear hL3 HS3 p1'
      go_wp2_with fail
      go_loopg [58] js.length (fun gk v wr => InLoop w W1 g w.heap.size #[.slice At ts.length ct, .slice Aj js.length cj] 25 js.length (fun i => L3 ++ (js.take i).flatMap jobW) gk v wr)
      case atStart => exact ⟨0, rfl, Nat.zero_le _, rfl, by simpa using HS3'.out, box3H.out⟩
      case round =>
        obtain ⟨m, hgk, hm, rfl, hst, hbx⟩ := hrel
        have HGKj := Lib.hid hgk
        dsimp only at hst
        obtain ⟨N, hN⟩ : ∃ M, L3 ++ (js.take m).flatMap jobW = M := ⟨_, rfl⟩
        rw [hN] at hst
        have hNl : N.length ≤ 500000000 := by
          have := flat_len_take (f := jobW) (B := 140000) (fun r hr => jobW_len (HFN.out r hr)) hjl m
          rw [← hN, List.length_append]
          omega
        have HN0 := Lib.hid hN
        have HSs := Lib.hid hst
        have HBXs := Lib.hid hbx
        have hwl2 := hst.lt
        clear hgk hst hbx hN p1
        by_cases hltj : m < js.length
        case pos =>
          obtain ⟨ad, hA, Ar, Av, Ap, cr, cv, cp, hJi⟩ := HJ.out m hltj
          have hltj' : (m : Int) < (js.length : Int) := by omega
          have dlj : decide ((m : Int) < (js.length : Int)) = true := decide_eq_true hltj'
          have hTS := flat_take (f := jobW) hltj
          have hjn := HFN.out _ (List.getElem_mem hltj)
          obtain ⟨j, hj⟩ : ∃ v, js[m] = v := ⟨_, rfl⟩
          rw [hj] at hJi hTS hjn
          have HTS := Lib.hid (show N ++ jobW j = L3 ++ (js.take (m + 1)).flatMap jobW from by rw [hTS, ← List.append_assoc, HN0.out])
          have hB := HSs.out.but0
          have k0 := hB.cell_some hJi.c0 (fun c => c)
          have k1 := hB.cell_some hJi.c1 (fun c => c)
          have k2 := hB.cell_some hJi.c2 (fun c => c)
          have k3 := hB.cell_some hJi.c3 (fun c => c)
          have k4 := hB.cell_some hJi.c4 (fun c => c)
          have k5 := hB.cell_some hJi.c5 (fun c => c)
          have k6 := hB.cell_some hJi.c6 (fun c => c)
          have k7 := hB.cell_some hJi.c7 (fun c => c)
          have k8 := hB.cell_some hJi.c8 (fun c => c)
          have HJI := Lib.hid hJi
          have HJN := Lib.hid hjn
          clear hj hTS hJi hjn hB
          subst hA
          go_wp2_with fail
          go_at_call 31
          refine (job0 (w0 := w) (L := N) ⟨HSs.out.but0.alloc _, But.refl _ _, (HSs.out.alloc _).wr⟩ hg j Ar Av Ap cr cv cp HJI.out.rules HJI.out.vars HJI.out.preds HJN.out (by omega)).mono ?_
          rintro e w3 ⟨rfl, hst⟩
          have HS5 := Lib.hid (show WSt w W1 g (N ++ jobW j) w3 from ⟨hst.but0, WS.trans (HSs.out.but.alloc _) hst.but, hst.wr⟩)
          have HB5 := Lib.hid (kept_ws hst.but _ _ _ hne (by decide) (blkold HBXs.out _))
          clear hst k0 k1 k2 k3 k4 k5 k6 k7 k8
          simp only []
          go_wp2_with fail
          go_roundg (js.length - (m + 1))
          case measure => rw [HGKj.out]; omega
          case rel => exact ⟨m + 1, rfl, by omega, by go_num, by have := HS5.out; rw [HTS.out] at this; exact this, HB5.out⟩
        case neg =>
          obtain rfl : m = js.length := by omega
          have hltj' : ¬ (js.length : Int) < (js.length : Int) := by omega
          have E3 := Lib.hid (show N = planW ts js from by rw [← HN0.out, List.take_length, ← HL3.out, E2.out, ← HL1.out]; rfl)
          obtain ⟨v3, hv3⟩ := HSs.out.wr
          have HV3 := Lib.hid hv3
          have q0 : wr.cell? ⟨g, 0, none⟩ = some v3 := blkcell hv3.cell 0 (by simp)
          clear hv3
          go_wp2_with fail
          go_ret2
          exact ⟨v3, rfl, by have := HV3.out.own; rw [E3.out] at this; exact this, HSs.out.but0.belowNo⟩
end Go.Proofs.Ytoaopjbgaehpfaa.G
end
section
/- wire's reader: bytes read, or given up. -/
namespace Go.Proofs.Ytoaopjbgaehpfaa.G
open Go.RowKit
attribute [local simp, local go_sem] alloc_drewN setCell_drewN
set_option linter.unusedVariables false
set_option linter.unusedSimpArgs false
set_option maxRecDepth 100000
/-- Why reading gives up. -/
def stopE (c : Int) : PanicEntry := { v := .iface 83 (.agg #[.int .i64 c]), recovered := false }
theorem must_ok (c : Int) (w : World) : Calls Try.prog 51 #[.bool true, .int .i64 c] w fun e w' => e = .returned (.tuple #[]) ∧ w' = w := by
  go_enter Try.func51, Try.ntmps51
  go_wp2_with fail
  go_end0
  exact ⟨rfl, rfl⟩
theorem must_no (c : Int) (w : World) : Calls Try.prog 51 #[.bool false, .int .i64 c] w fun e w' => e = .panicked [stopE c] ∧ w' = w := by
  go_enter Try.func51, Try.ntmps51
  go_wp2_with fail
  exact ⟨rfl, rfl, rfl⟩
/-- A reader: its bytes, where it is, how much it has counted. -/
def RdIn (g : Nat) (A : Option Addr) (n cp : Nat) (at_ cnt : Int) (w : World) : Prop := w.heap[g]? = some (.cells #[.slice A n cp, .int .i64 at_, .int .i64 cnt] 72 (0, 0))
/-- .. apart from the block g. -/
def BytesFar (w : World) (g : Nat) (A : Option Addr) (bs : List Int) : Prop := ∀ i (hi : i < bs.length), ∃ ad, A = some ad ∧ w.cell? (ad.add i) = some (.int .u8 bs[i]) ∧ ad.block ≠ g
theorem BytesFar.but {w w' : World} {g : Nat} {A : Option Addr} {bs : List Int} (h : BytesFar w g A bs) (hb : But (One g) w w') : BytesFar w' g A bs := fun i hi => by
  obtain ⟨ad, hA, k, hn⟩ := h i hi
  exact ⟨ad, hA, hb.cell_some k (by rw [addr_blk]; exact hn), hn⟩
theorem must_okq (c : Int) (w : World) : Calls Try.prog 51 #[.bool true, .int .i64 c] w fun e w' => e = .returned (.tuple #[]) ∧ ∃ m, w' = w.drewN m := (must_ok c w).mono fun _ _ ⟨h, h2⟩ => ⟨h, 0, h2⟩
set_option maxHeartbeats 4000000 in
theorem byte_ok {g : Nat} {A : Option Addr} {cp : Nat} {bs : List Int} {at_ : Nat} {cnt : Int} {w : World} (h : RdIn g A bs.length cp (at_ : Int) cnt w) (hb : BytesFar w g A bs) (hl : bs.length ≤ 9223372036854775807) (hlt : at_ < bs.length) (hc0 : 0 ≤ cnt) (hc : cnt ≤ 4611686018427387904) :
    Calls Try.prog 58 #[.pointer (some ⟨g, 0, none⟩)] w fun e w' => e = .returned (.int .u8 bs[at_]) ∧ RdIn g A bs.length cp ((at_ : Int) + 1) (cnt + 1) w' ∧ But (One g) w w' := by
  obtain ⟨ad, hA, k1, hgl⟩ := hb at_ hlt
  obtain ⟨x, hx⟩ : ∃ x, bs[at_] = x := ⟨_, rfl⟩
  rw [hx] at k1 ⊢
  unfold RdIn at h
  have q0 : w.cell? ⟨g, 0, none⟩ = some (.slice A bs.length cp) := blkcell h 0 (by simp)
  have q1 : w.cell? ⟨g, 1, none⟩ = some (.int .i64 (at_ : Int)) := blkcell h 1 (by simp)
  have q2 : w.cell? ⟨g, 2, none⟩ = some (.int .i64 cnt) := blkcell h 2 (by simp)
  have hfz : ∀ i, w.frozen? ⟨g, i, none⟩ = false := blkfree h
  have HG := Lib.hid h
  have hlt' : (at_ : Int) < (bs.length : Int) := by omega
  have dl : decide ((at_ : Int) < (bs.length : Int)) = true := decide_eq_true hlt'
  clear h hb hx
  subst hA
  have hB := ((But.refl (One g) w).set1 1 (.int .i64 ((at_ : Int) + 1))).set1 2 (.int .i64 (cnt + 1))
  have k1a := hB.cell_some k1 (by rw [addr_blk]; exact hgl)
  have HB := Lib.hid hB
  clear hB
  have hr0 := blkset (blkset HG.out 1 (.int .i64 ((at_ : Int) + 1))) 2 (.int .i64 (cnt + 1))
  simp only [List.setIfInBounds_toArray, List.set_cons_zero, List.set_cons_succ] at hr0
  have HR := Lib.hid hr0
  clear hr0
  go_enter Try.func58, Try.ntmps58
  go_wp2_with fail
  go_quiet ((go_at_call 51; exact Calls.quiet_of (must_okq 181 _)))
  go_wp2_with fail
  go_quiet (fail)
  go_wp2_with fail
  go_ret
  exact ⟨rfl, HR.out, (HB.out.drewN _).drewN _⟩
set_option maxHeartbeats 4000000 in
theorem byte_no {g : Nat} {A : Option Addr} {n cp : Nat} {at_ : Nat} {cnt : Int} {w : World} (h : RdIn g A n cp (at_ : Int) cnt w) (hl : n ≤ 9223372036854775807) (hlt : ¬ at_ < n) :
    Calls Try.prog 58 #[.pointer (some ⟨g, 0, none⟩)] w fun e w' => e = .panicked [stopE 181] ∧ RdIn g A n cp (at_ : Int) cnt w' ∧ But (One g) w w' := by
  unfold RdIn at h
  have q0 : w.cell? ⟨g, 0, none⟩ = some (.slice A n cp) := blkcell h 0 (by simp)
  have q1 : w.cell? ⟨g, 1, none⟩ = some (.int .i64 (at_ : Int)) := blkcell h 1 (by simp)
  have HG := Lib.hid h
  have hlt' : ¬ (at_ : Int) < (n : Int) := by omega
  have dl : decide ((at_ : Int) < (n : Int)) = false := decide_eq_false hlt'
  clear h
  go_enter Try.func58, Try.ntmps58
  go_wp2_with fail
  refine wp_region_held_drew (S := fun w' => w'.cell? ⟨g, 0, none⟩ = some (.slice A n cp) ∧ w'.cell? ⟨g, 1, none⟩ = some (.int .i64 (at_ : Int))) (by kernel_rfl) ⟨by go_simp, by go_simp⟩ (fun hS => ?_)
  refine takeE 0 (some 3) rfl rfl (fun w ⟨e0, e1⟩ => by go_simp <;> (with_reducible rfl)) hS ?_
  simp only [putS]
  refine takeE 1 (some 4) rfl rfl (fun w ⟨e0, e1⟩ => by go_simp <;> (with_reducible rfl)) hS ?_
  simp only [putS]
  refine takeE 2 (some 5) rfl rfl (fun w ⟨e0, e1⟩ => by go_simp <;> (with_reducible rfl)) hS ?_
  simp only [putS]
  refine takeE 3 (some 6) rfl rfl (fun w ⟨e0, e1⟩ => by go_simp <;> (with_reducible rfl)) hS ?_
  simp only [putS]
  refine takeE 4 (some 7) rfl rfl (fun w ⟨e0, e1⟩ => by go_simp <;> (with_reducible rfl)) hS ?_
  simp only [putS]
  refine takeE 5 (some 8) rfl rfl (fun w ⟨e0, e1⟩ => by go_simp <;> (with_reducible rfl)) hS ?_
  simp only [putS]
  refine takeE 6 (some 9) rfl rfl (fun w ⟨e0, e1⟩ => by go_simp <;> (with_reducible rfl)) hS ?_
  simp only [putS]
  refine takeE 7 (some 10) rfl rfl (fun w ⟨e0, e1⟩ => by go_simp <;> (with_reducible rfl)) hS ?_
  simp only [putS]
  refine takeE 8 (some 11) rfl rfl (fun w ⟨e0, e1⟩ => by go_simp <;> (with_reducible rfl)) hS ?_
  simp only [putS]
  refine takeE 9 (some 12) rfl rfl (fun w ⟨e0, e1⟩ => by go_simp <;> (with_reducible rfl)) hS ?_
  simp only [putS]
  refine wpAnyH_ready (rs := [10]) (by kernel_rfl) (by simp) (AllReadyH.cons rfl (fun K hK => ?_) AllReadyH.nil)
  rw [if_pos (by kernel_rfl)]
  go_simp
  go_at_call 51
  refine (must_no 181 _).mono ?_
  rintro e w1 ⟨rfl, rfl⟩
  exact ⟨rfl, rfl, HG.out, (But.refl _ w).drew⟩
end Go.Proofs.Ytoaopjbgaehpfaa.G
end
section
/- wire's reader: a number. -/
namespace Go.Proofs.Ytoaopjbgaehpfaa.G
open Go.RowKit
attribute [local simp, local go_sem] alloc_drewN setCell_drewN
set_option linter.unusedVariables false
set_option linter.unusedSimpArgs false
set_option maxRecDepth 100000
/-- What reading gives: why it gave up, and where; or what was read, and where it is now. -/
abbrev RR (α : Type) := Sum (Int × Nat) (α × Nat)
def numR (bs : List Int) : Nat → Nat → Int → Nat → RR Int
  | 0, _, _, a => .inl (182, a)
  | f + 1, k, n, a =>
    if a < bs.length then
      (if bs.getD a 0 < 128 then (if bs.getD a 0 = 0 ∧ k ≠ 0 then .inl (182, a + 1) else .inr (n + bs.getD a 0 % 128 * 128 ^ k, a + 1)) else numR bs f (k + 1) (n + bs.getD a 0 % 128 * 128 ^ k) (a + 1))
    else .inl (181, a)
def numberR (bs : List Int) (a : Nat) : RR Int := numR bs 4 0 0 a
/-- What is left behind: the reader stands where reading got to. -/
def RPost (g : Nat) (A : Option Addr) (bs : List Int) (cp : Nat) (d : Int) (w : World) (S : Nat → Prop) {α : Type} (r : RR α) (okE : α → Ending → World → Prop) (e : Ending) (w' : World) : Prop :=
  But S w w' ∧ match r with
  | .inl (c, a) => e = .panicked [stopE c] ∧ RdIn g A bs.length cp (a : Int) ((a : Int) + d) w'
  | .inr (x, a) => okE x e w' ∧ RdIn g A bs.length cp (a : Int) ((a : Int) + d) w'
structure Bytes (bs : List Int) : Prop where
  len : bs.length ≤ 1152921504606846975
  rng : ∀ b ∈ bs, 0 ≤ b ∧ b < 256
theorem andB {c : Int} (h : 0 ≤ c ∧ c < 256) : bits .and .u8 c 127 = c % 128 := by
  have h1 : ∀ k : Fin 256, bits .and .u8 ((k.val : Nat) : Int) 127 = ((k.val : Nat) : Int) % 128 := by decide
  have h2 := h1 ⟨c.toNat, by omega⟩
  rw [show (((⟨c.toNat, by omega⟩ : Fin 256).val : Nat) : Int) = c from by show ((c.toNat : Nat) : Int) = _; omega] at h2
  exact h2
theorem orN (i n m : Nat) (h : n < 2 ^ i) (hb : n + m * 2 ^ i < 9223372036854775808) : bits .or .i64 (n : Int) ((m * 2 ^ i : Nat) : Int) = ((n + m * 2 ^ i : Nat) : Int) := by
  unfold bits
  dsimp only
  have hn : (BitVec.ofInt IntKind.i64.bits (n : Int)).toNat = n := by
    show (BitVec.ofInt 64 (n : Int)).toNat = n
    rw [BitVec.toNat_ofInt]
    omega
  have hm : (BitVec.ofInt IntKind.i64.bits ((m * 2 ^ i : Nat) : Int)).toNat = m * 2 ^ i := by
    show (BitVec.ofInt 64 ((m * 2 ^ i : Nat) : Int)).toNat = _
    rw [BitVec.toNat_ofInt]
    omega
  rw [BitVec.toNat_or, hn, hm, Nat.or_comm]
  have h3 := Nat.shiftLeft_add_eq_or_of_lt h m
  rw [Nat.shiftLeft_eq] at h3
  rw [← h3, IntKind.wrap_i64]
  omega
theorem orI (i : Nat) (p n m : Int) (hp : p = ((2 ^ i : Nat) : Int)) (h0 : 0 ≤ n) (h : n < p) (hm : 0 ≤ m) (hb : n + m * p < 9223372036854775808) : bits .or .i64 n (m * p) = n + m * p := by
  subst hp
  obtain ⟨n', rfl⟩ : ∃ k : Nat, n = (k : Int) := ⟨n.toNat, by omega⟩
  obtain ⟨m', rfl⟩ : ∃ k : Nat, m = (k : Int) := ⟨m.toNat, by omega⟩
  have hb2 : n' + m' * 2 ^ i < 9223372036854775808 := by
    rw [← Int.natCast_mul, ← Int.natCast_add] at hb
    omega
  have h1 := orN i n' m' (Int.ofNat_lt.1 h) hb2
  rw [Int.natCast_add, Int.natCast_mul] at h1
  exact h1
theorem numR_succ (bs : List Int) (f k : Nat) (n : Int) (a : Nat) : numR bs (f + 1) k n a = if a < bs.length then (if bs.getD a 0 < 128 then (if bs.getD a 0 = 0 ∧ k ≠ 0 then .inl (182, a + 1) else .inr (n + bs.getD a 0 % 128 * 128 ^ k, a + 1)) else numR bs f (k + 1) (n + bs.getD a 0 % 128 * 128 ^ k) (a + 1)) else .inl (181, a) := rfl
def NumRAt (g : Nat) (A : Option Addr) (bs : List Int) (cp : Nat) (d : Int) (w : World) (R : RR Int) (gk : Nat) (v3 v4 : Value) (wr : World) : Prop :=
  ∃ f k : Nat, ∃ n : Int, ∃ a : Nat, gk = f ∧ k + f = 4 ∧ 1 ≤ f ∧ v3 = .int .i64 n ∧ v4 = .int .i64 (k : Int) ∧ 0 ≤ n ∧ n < 128 ^ k ∧ a ≤ bs.length ∧ RdIn g A bs.length cp (a : Int) ((a : Int) + d) wr ∧ But (One g) w wr ∧ numR bs f k n a = R
set_option maxHeartbeats 4000000 in
theorem number0 {g : Nat} {A : Option Addr} {cp : Nat} {bs : List Int} {at_ : Nat} {d : Int} {w : World} (h : RdIn g A bs.length cp (at_ : Int) ((at_ : Int) + d) w) (hb : BytesFar w g A bs) (hB : Bytes bs) (ha : at_ ≤ bs.length) (hd : 0 ≤ d ∧ d ≤ 100) :
    Calls Try.prog 59 #[.pointer (some ⟨g, 0, none⟩)] w (RPost g A bs cp d w (One g) (numberR bs at_) fun x e _ => e = .returned (.int .i64 x)) := by
  have H := Lib.hid h
  have HB := Lib.hid hb
  clear h hb
  go_enter Try.func59, Try.ntmps59
  go_wp2_with fail
  go_loopg [3, 4] 4 (fun gk v3 v4 wr => NumRAt g A bs cp d w (numberR bs at_) gk v3 v4 wr)
  case atStart => exact ⟨4, 0, 0, at_, rfl, rfl, by decide, rfl, rfl, by decide, by decide, ha, H.out, But.refl _ _, rfl⟩
  case round =>
    obtain ⟨f, k, n, a, hgk, hkf, hf, rfl, rfl, hn0, hn1, ha2, hr, hbt, hnum⟩ := hrel
    have HGK := Lib.hid hgk
    have HR := Lib.hid hr
    have HBt := Lib.hid hbt
    have HN := Lib.hid hnum
    clear hr hbt hnum hgk
    by_cases hlt : a < bs.length
    case neg =>
      have E := Lib.hid (show numberR bs at_ = .inl (181, a) from by
        rw [← HN.out]
        obtain ⟨f', rfl⟩ : ∃ f', f = f' + 1 := ⟨f - 1, by omega⟩
        unfold numR
        rw [if_neg hlt])
      have hln := hB.len
      go_wp2_with (first | (go_at_call 58; refine (byte_no HR.out (by omega) hlt).mono ?_; rintro e w1 ⟨rfl, hr1, hb1⟩; (have HR1 := Lib.hid hr1); (have HB1 := Lib.hid hb1); clear hr1 hb1))
      exact ⟨rfl, HBt.out.trans HB1.out, by rw [E.out]; exact ⟨rfl, HR1.out⟩⟩
    case pos =>
      have hx := hB.rng _ (List.getElem_mem hlt)
      have hln := hB.len
      obtain ⟨c, hc⟩ : ∃ c, bs[a] = c := ⟨_, rfl⟩
      have hgd : bs.getD a 0 = c := by rw [List.getD_eq_getElem?_getD, List.getElem?_eq_getElem hlt, hc]; rfl
      have HC := Lib.hid hc
      have HGD := Lib.hid hgd
      rw [hc] at hx
      clear hc hgd
      have hk : (k = 0 ∧ f = 4) ∨ (k = 1 ∧ f = 3) ∨ (k = 2 ∧ f = 2) ∨ (k = 3 ∧ f = 1) := by omega
      have han := andB hx
      obtain ⟨m, hm⟩ : ∃ m, c % 128 = m := ⟨_, rfl⟩
      have hm0 : 0 ≤ m ∧ m < 128 := by omega
      rw [hm] at han
      have HM := Lib.hid hm
      clear hm
      rcases hk with ⟨rfl, rfl⟩ | ⟨rfl, rfl⟩ | ⟨rfl, rfl⟩ | ⟨rfl, rfl⟩
      · obtain rfl : n = 0 := by have : n < 1 := hn1; omega
        have hor := orI 0 1 0 m rfl (by omega) (by omega) (by omega) (by omega)
        rw [Int.mul_one, Int.zero_add] at hor
        have hnb : 0 ≤ m ∧ m < 128 := hm0
        clear hn1
        have HS := Lib.hid (show numR bs 4 0 0 a = if c < 128 then (if c = 0 ∧ 0 ≠ 0 then .inl (182, a + 1) else .inr (m, a + 1)) else numR bs 3 1 m (a + 1) from by
          rw [numR_succ bs 3, if_pos hlt, HGD.out, HM.out]
          rw [show (0 : Int) + m * 128 ^ 0 = m from by omega])
        by_cases c1 : c < 128
        · have d1 : decide (c < 128) = true := decide_eq_true c1
          have E := Lib.hid (show numberR bs at_ = .inr (m, a + 1) from by rw [← HN.out, HS.out, if_pos c1, if_neg (by omega)])
          obtain ⟨b0, hb0⟩ : ∃ b, (c == 0) = b := ⟨_, rfl⟩
          have hb0' : (c != 0) = !b0 := by rw [← hb0]; rfl
          cases b0
          all_goals
            simp only [Bool.not_false, Bool.not_true] at hb0'
            go_wp2_with (first | (go_at_call 58; refine (byte_ok HR.out (HB.out.but HBt.out) (by omega) hlt (by omega) (by omega)).mono ?_; rw [HC.out]; rintro e w1 ⟨rfl, hr1, hb1⟩; (have HR1 := Lib.hid hr1); (have HB1 := Lib.hid hb1); clear hr1 hb1) | (go_at_call 51; refine (must_ok 182 _).mono ?_; rintro e w2 ⟨rfl, rfl⟩))
            go_ret
            exact ⟨HBt.out.trans HB1.out, by rw [E.out]; exact ⟨rfl, by have := HR1.out; rwa [show ((a : Int) + d + 1) = (((a + 1 : Nat) : Int) + d) from by omega, show ((a : Int) + 1) = ((a + 1 : Nat) : Int) from by omega] at this⟩⟩
        · have d1 : decide (c < 128) = false := decide_eq_false c1
          have E := Lib.hid (show numR bs 3 1 m (a + 1) = numberR bs at_ from by rw [← HN.out, HS.out, if_neg c1])
          go_wp2_with (first | (go_at_call 58; refine (byte_ok HR.out (HB.out.but HBt.out) (by omega) hlt (by omega) (by omega)).mono ?_; rw [HC.out]; rintro e w1 ⟨rfl, hr1, hb1⟩; (have HR1 := Lib.hid hr1); (have HB1 := Lib.hid hb1); clear hr1 hb1) | (go_at_call 51; refine (must_ok 182 _).mono ?_; rintro e w2 ⟨rfl, rfl⟩))
          go_roundg 3
          case measure => rw [HGK.out]; decide
          case rel => exact ⟨3, 1, m, a + 1, rfl, rfl, by decide, rfl, rfl, hnb.1, hnb.2, hlt, by have := HR1.out; rwa [show ((a : Int) + d + 1) = (((a + 1 : Nat) : Int) + d) from by omega, show ((a : Int) + 1) = ((a + 1 : Nat) : Int) from by omega] at this, HBt.out.trans HB1.out, E.out⟩
      · have hn2 : n < 128 := hn1
        have hor := orI 7 128 n m rfl (by omega) (by omega) (by omega) (by omega)
        obtain ⟨n', hn'⟩ : ∃ x, n + m * 128 = x := ⟨_, rfl⟩
        have hnb : 0 ≤ n' ∧ n' < 16384 := by omega
        rw [hn'] at hor
        have HN' := Lib.hid hn'
        clear hn' hn1
        have HS := Lib.hid (show numR bs 3 1 n a = if c < 128 then (if c = 0 ∧ 1 ≠ 0 then .inl (182, a + 1) else .inr (n', a + 1)) else numR bs 2 2 n' (a + 1) from by
          rw [← HN'.out]
          rw [numR_succ bs 2, if_pos hlt, HGD.out, HM.out]
          rfl)
        by_cases c1 : c < 128
        · have d1 : decide (c < 128) = true := decide_eq_true c1
          by_cases c0 : c = 0
          · have E := Lib.hid (show numberR bs at_ = .inl (182, a + 1) from by rw [← HN.out, HS.out, if_pos c1, if_pos ⟨c0, by decide⟩])
            have c0' : (c == 0) = true := by simpa using c0
            have c0'' : (c != 0) = false := by simpa using c0
            clear c0
            go_wp2_with (first | (go_at_call 58; refine (byte_ok HR.out (HB.out.but HBt.out) (by omega) hlt (by omega) (by omega)).mono ?_; rw [HC.out]; rintro e w1 ⟨rfl, hr1, hb1⟩; (have HR1 := Lib.hid hr1); (have HB1 := Lib.hid hb1); clear hr1 hb1) | (go_at_call 51; refine (must_no 182 _).mono ?_; rintro e w2 ⟨rfl, rfl⟩))
            exact ⟨rfl, HBt.out.trans HB1.out, by rw [E.out]; exact ⟨rfl, by have := HR1.out; rwa [show ((a : Int) + d + 1) = (((a + 1 : Nat) : Int) + d) from by omega, show ((a : Int) + 1) = ((a + 1 : Nat) : Int) from by omega] at this⟩⟩
          · have E := Lib.hid (show numberR bs at_ = .inr (n', a + 1) from by rw [← HN.out, HS.out, if_pos c1, if_neg (by intro h; exact c0 h.1)])
            have c0' : (c == 0) = false := by simpa using c0
            have c0'' : (c != 0) = true := by simpa using c0
            clear c0
            go_wp2_with (first | (go_at_call 58; refine (byte_ok HR.out (HB.out.but HBt.out) (by omega) hlt (by omega) (by omega)).mono ?_; rw [HC.out]; rintro e w1 ⟨rfl, hr1, hb1⟩; (have HR1 := Lib.hid hr1); (have HB1 := Lib.hid hb1); clear hr1 hb1) | (go_at_call 51; refine (must_ok 182 _).mono ?_; rintro e w2 ⟨rfl, rfl⟩))
            go_ret
            exact ⟨HBt.out.trans HB1.out, by rw [E.out]; exact ⟨rfl, by have := HR1.out; rwa [show ((a : Int) + d + 1) = (((a + 1 : Nat) : Int) + d) from by omega, show ((a : Int) + 1) = ((a + 1 : Nat) : Int) from by omega] at this⟩⟩
        · have d1 : decide (c < 128) = false := decide_eq_false c1
          have E := Lib.hid (show numR bs 2 2 n' (a + 1) = numberR bs at_ from by rw [← HN.out, HS.out, if_neg c1])
          go_wp2_with (first | (go_at_call 58; refine (byte_ok HR.out (HB.out.but HBt.out) (by omega) hlt (by omega) (by omega)).mono ?_; rw [HC.out]; rintro e w1 ⟨rfl, hr1, hb1⟩; (have HR1 := Lib.hid hr1); (have HB1 := Lib.hid hb1); clear hr1 hb1) | (go_at_call 51; refine (must_ok 182 _).mono ?_; rintro e w2 ⟨rfl, rfl⟩))
          go_roundg 2
          case measure => rw [HGK.out]; decide
          case rel => exact ⟨2, 2, n', a + 1, rfl, rfl, by decide, rfl, rfl, hnb.1, hnb.2, hlt, by have := HR1.out; rwa [show ((a : Int) + d + 1) = (((a + 1 : Nat) : Int) + d) from by omega, show ((a : Int) + 1) = ((a + 1 : Nat) : Int) from by omega] at this, HBt.out.trans HB1.out, E.out⟩
      · have hn2 : n < 16384 := hn1
        have hor := orI 14 16384 n m rfl (by omega) (by omega) (by omega) (by omega)
        obtain ⟨n', hn'⟩ : ∃ x, n + m * 16384 = x := ⟨_, rfl⟩
        have hnb : 0 ≤ n' ∧ n' < 2097152 := by omega
        rw [hn'] at hor
        have HN' := Lib.hid hn'
        clear hn' hn1
        have HS := Lib.hid (show numR bs 2 2 n a = if c < 128 then (if c = 0 ∧ 2 ≠ 0 then .inl (182, a + 1) else .inr (n', a + 1)) else numR bs 1 3 n' (a + 1) from by
          rw [← HN'.out]
          rw [numR_succ bs 1, if_pos hlt, HGD.out, HM.out]
          rfl)
        by_cases c1 : c < 128
        · have d1 : decide (c < 128) = true := decide_eq_true c1
          by_cases c0 : c = 0
          · have E := Lib.hid (show numberR bs at_ = .inl (182, a + 1) from by rw [← HN.out, HS.out, if_pos c1, if_pos ⟨c0, by decide⟩])
            have c0' : (c == 0) = true := by simpa using c0
            have c0'' : (c != 0) = false := by simpa using c0
            clear c0
            go_wp2_with (first | (go_at_call 58; refine (byte_ok HR.out (HB.out.but HBt.out) (by omega) hlt (by omega) (by omega)).mono ?_; rw [HC.out]; rintro e w1 ⟨rfl, hr1, hb1⟩; (have HR1 := Lib.hid hr1); (have HB1 := Lib.hid hb1); clear hr1 hb1) | (go_at_call 51; refine (must_no 182 _).mono ?_; rintro e w2 ⟨rfl, rfl⟩))
            exact ⟨rfl, HBt.out.trans HB1.out, by rw [E.out]; exact ⟨rfl, by have := HR1.out; rwa [show ((a : Int) + d + 1) = (((a + 1 : Nat) : Int) + d) from by omega, show ((a : Int) + 1) = ((a + 1 : Nat) : Int) from by omega] at this⟩⟩
          · have E := Lib.hid (show numberR bs at_ = .inr (n', a + 1) from by rw [← HN.out, HS.out, if_pos c1, if_neg (by intro h; exact c0 h.1)])
            have c0' : (c == 0) = false := by simpa using c0
            have c0'' : (c != 0) = true := by simpa using c0
            clear c0
            go_wp2_with (first | (go_at_call 58; refine (byte_ok HR.out (HB.out.but HBt.out) (by omega) hlt (by omega) (by omega)).mono ?_; rw [HC.out]; rintro e w1 ⟨rfl, hr1, hb1⟩; (have HR1 := Lib.hid hr1); (have HB1 := Lib.hid hb1); clear hr1 hb1) | (go_at_call 51; refine (must_ok 182 _).mono ?_; rintro e w2 ⟨rfl, rfl⟩))
            go_ret
            exact ⟨HBt.out.trans HB1.out, by rw [E.out]; exact ⟨rfl, by have := HR1.out; rwa [show ((a : Int) + d + 1) = (((a + 1 : Nat) : Int) + d) from by omega, show ((a : Int) + 1) = ((a + 1 : Nat) : Int) from by omega] at this⟩⟩
        · have d1 : decide (c < 128) = false := decide_eq_false c1
          have E := Lib.hid (show numR bs 1 3 n' (a + 1) = numberR bs at_ from by rw [← HN.out, HS.out, if_neg c1])
          go_wp2_with (first | (go_at_call 58; refine (byte_ok HR.out (HB.out.but HBt.out) (by omega) hlt (by omega) (by omega)).mono ?_; rw [HC.out]; rintro e w1 ⟨rfl, hr1, hb1⟩; (have HR1 := Lib.hid hr1); (have HB1 := Lib.hid hb1); clear hr1 hb1) | (go_at_call 51; refine (must_ok 182 _).mono ?_; rintro e w2 ⟨rfl, rfl⟩))
          go_roundg 1
          case measure => rw [HGK.out]; decide
          case rel => exact ⟨1, 3, n', a + 1, rfl, rfl, by decide, rfl, rfl, hnb.1, hnb.2, hlt, by have := HR1.out; rwa [show ((a : Int) + d + 1) = (((a + 1 : Nat) : Int) + d) from by omega, show ((a : Int) + 1) = ((a + 1 : Nat) : Int) from by omega] at this, HBt.out.trans HB1.out, E.out⟩
      · have hn2 : n < 2097152 := hn1
        have hor := orI 21 2097152 n m rfl (by omega) (by omega) (by omega) (by omega)
        obtain ⟨n', hn'⟩ : ∃ x, n + m * 2097152 = x := ⟨_, rfl⟩
        have hnb : 0 ≤ n' ∧ n' < 268435456 := by omega
        rw [hn'] at hor
        have HN' := Lib.hid hn'
        clear hn' hn1
        have HS := Lib.hid (show numR bs 1 3 n a = if c < 128 then (if c = 0 ∧ 3 ≠ 0 then .inl (182, a + 1) else .inr (n', a + 1)) else numR bs 0 4 n' (a + 1) from by
          rw [← HN'.out]
          rw [numR_succ bs 0, if_pos hlt, HGD.out, HM.out]
          rfl)
        by_cases c1 : c < 128
        · have d1 : decide (c < 128) = true := decide_eq_true c1
          by_cases c0 : c = 0
          · have E := Lib.hid (show numberR bs at_ = .inl (182, a + 1) from by rw [← HN.out, HS.out, if_pos c1, if_pos ⟨c0, by decide⟩])
            have c0' : (c == 0) = true := by simpa using c0
            have c0'' : (c != 0) = false := by simpa using c0
            clear c0
            go_wp2_with (first | (go_at_call 58; refine (byte_ok HR.out (HB.out.but HBt.out) (by omega) hlt (by omega) (by omega)).mono ?_; rw [HC.out]; rintro e w1 ⟨rfl, hr1, hb1⟩; (have HR1 := Lib.hid hr1); (have HB1 := Lib.hid hb1); clear hr1 hb1) | (go_at_call 51; refine (must_no 182 _).mono ?_; rintro e w2 ⟨rfl, rfl⟩))
            exact ⟨rfl, HBt.out.trans HB1.out, by rw [E.out]; exact ⟨rfl, by have := HR1.out; rwa [show ((a : Int) + d + 1) = (((a + 1 : Nat) : Int) + d) from by omega, show ((a : Int) + 1) = ((a + 1 : Nat) : Int) from by omega] at this⟩⟩
          · have E := Lib.hid (show numberR bs at_ = .inr (n', a + 1) from by rw [← HN.out, HS.out, if_pos c1, if_neg (by intro h; exact c0 h.1)])
            have c0' : (c == 0) = false := by simpa using c0
            have c0'' : (c != 0) = true := by simpa using c0
            clear c0
            go_wp2_with (first | (go_at_call 58; refine (byte_ok HR.out (HB.out.but HBt.out) (by omega) hlt (by omega) (by omega)).mono ?_; rw [HC.out]; rintro e w1 ⟨rfl, hr1, hb1⟩; (have HR1 := Lib.hid hr1); (have HB1 := Lib.hid hb1); clear hr1 hb1) | (go_at_call 51; refine (must_ok 182 _).mono ?_; rintro e w2 ⟨rfl, rfl⟩))
            go_ret
            exact ⟨HBt.out.trans HB1.out, by rw [E.out]; exact ⟨rfl, by have := HR1.out; rwa [show ((a : Int) + d + 1) = (((a + 1 : Nat) : Int) + d) from by omega, show ((a : Int) + 1) = ((a + 1 : Nat) : Int) from by omega] at this⟩⟩
        · have d1 : decide (c < 128) = false := decide_eq_false c1
          have E := Lib.hid (show numberR bs at_ = .inl (182, a + 1) from by rw [← HN.out, HS.out, if_neg c1]; rfl)
          go_wp2_with (first | (go_at_call 58; refine (byte_ok HR.out (HB.out.but HBt.out) (by omega) hlt (by omega) (by omega)).mono ?_; rw [HC.out]; rintro e w1 ⟨rfl, hr1, hb1⟩; (have HR1 := Lib.hid hr1); (have HB1 := Lib.hid hb1); clear hr1 hb1) | (go_at_call 51; refine (must_no 182 _).mono ?_; rintro e w2 ⟨rfl, rfl⟩))
          exact ⟨rfl, HBt.out.trans HB1.out, by rw [E.out]; exact ⟨rfl, by have := HR1.out; rwa [show ((a : Int) + d + 1) = (((a + 1 : Nat) : Int) + d) from by omega, show ((a : Int) + 1) = ((a + 1 : Nat) : Int) from by omega] at this⟩⟩
end Go.Proofs.Ytoaopjbgaehpfaa.G
end
section
/- wire's reader: the head's bytes, and texts. -/
namespace Go.Proofs.Ytoaopjbgaehpfaa.G
open Go.RowKit
attribute [local simp, local go_sem] alloc_drewN setCell_drewN
set_option linter.unusedVariables false
set_option linter.unusedSimpArgs false
set_option maxRecDepth 100000
def SamePost (g : Nat) (A : Option Addr) (bs : List Int) (cp : Nat) (c : Int) (at_ : Nat) (cnt : Int) (w : World) (e : Ending) (w' : World) : Prop := But (One g) w w' ∧
      if at_ < bs.length then (RdIn g A bs.length cp ((at_ : Int) + 1) (cnt + 2) w' ∧ if bs.getD at_ 0 = c then e = .returned (.tuple #[]) else e = .panicked [stopE 182]) else (RdIn g A bs.length cp (at_ : Int) cnt w' ∧ e = .panicked [stopE 181])
set_option maxHeartbeats 4000000 in
theorem same0 {g : Nat} {A : Option Addr} {cp : Nat} {bs : List Int} {at_ : Nat} {cnt c : Int} {w : World} (h : RdIn g A bs.length cp (at_ : Int) cnt w) (hb : BytesFar w g A bs) (hB : Bytes bs) (hc : 0 ≤ cnt ∧ cnt ≤ 1000000000000000) :
    Calls Try.prog 45 #[.pointer (some ⟨g, 0, none⟩), .int .u8 c] w (SamePost g A bs cp c at_ cnt w) := by
  have hln := hB.len
  have HR := Lib.hid h
  have HB := Lib.hid hb
  clear h hb
  by_cases hlt : at_ < bs.length
  case neg =>
    have E1 := Lib.hid hlt
    go_enter Try.func45, Try.ntmps45
    go_wp2_with (first | (go_at_call 58; refine (byte_no HR.out (by omega) hlt).mono ?_; rintro e w1 ⟨rfl, hr1, hb1⟩; (have HR1 := Lib.hid hr1); (have HB1 := Lib.hid hb1); clear hr1 hb1))
    exact ⟨rfl, HB1.out, by rw [if_neg E1.out]; exact ⟨HR1.out, rfl⟩⟩
  have hgd : bs.getD at_ 0 = bs[at_] := by rw [List.getD_eq_getElem?_getD, List.getElem?_eq_getElem hlt]; rfl
  obtain ⟨x, hx⟩ : ∃ x, bs[at_] = x := ⟨_, rfl⟩
  rw [hx] at hgd
  have HX := Lib.hid hx
  have HGD := Lib.hid hgd
  obtain ⟨b, hbx⟩ : ∃ b, (x == c) = b := ⟨_, rfl⟩
  have HBX := Lib.hid hbx
  have hlt2 := Lib.hid hlt
  clear hgd hx
  cases b
  all_goals
    go_enter Try.func45, Try.ntmps45
    go_wp2_with (first | (go_at_call 58; refine (byte_ok HR.out HB.out (by omega) hlt (by omega) (by omega)).mono ?_; rw [HX.out]; rintro e w1 ⟨rfl, hr1, hb1⟩; (have q2 : w1.cell? ⟨g, 2, none⟩ = some (.int .i64 (cnt + 1)) := blkcell hr1 2 (by simp)); (have qf : w1.frozen? ⟨g, 2, none⟩ = false := blkfree hr1 2); (have hr2 := blkset hr1 2 (.int .i64 (cnt + 1 + 1))); (have HR1 := Lib.hid hr2); (have HB1 := Lib.hid (hb1.set1 2 (.int .i64 (cnt + 1 + 1)))); clear hr1 hb1 hr2) | (go_at_call 51; first | (with_reducible refine (must_no 182 _).mono ?_; rintro e w2 ⟨rfl, rfl⟩) | (with_reducible refine (must_ok 182 _).mono ?_; rintro e w2 ⟨rfl, rfl⟩)))
    first
      | (go_end0
         exact ⟨HB1.out, by rw [if_pos hlt2.out]; exact ⟨by have := HR1.out; simp only [List.setIfInBounds_toArray, List.set_cons_zero, List.set_cons_succ] at this; rw [show cnt + 1 + 1 = cnt + 2 from by omega] at this; rw [show cnt + 1 + 1 = cnt + 2 from by omega]; exact this, by rw [HGD.out, if_pos (by simpa using HBX.out)]⟩⟩)
      | exact ⟨rfl, HB1.out, by rw [if_pos hlt2.out]; exact ⟨by have := HR1.out; simp only [List.setIfInBounds_toArray, List.set_cons_zero, List.set_cons_succ] at this; rw [show cnt + 1 + 1 = cnt + 2 from by omega] at this; rw [show cnt + 1 + 1 = cnt + 2 from by omega]; exact this, by rw [HGD.out, if_neg (by simpa using HBX.out)]⟩⟩
theorem numR_in {bs : List Int} (hB : Bytes bs) : ∀ (f k : Nat) (n : Int) (a : Nat) (x : Int) (a' : Nat), 0 ≤ n → n < 128 ^ k → numR bs f k n a = .inr (x, a') → 0 ≤ x ∧ x < 128 ^ (k + f) ∧ a < a' ∧ a' ≤ bs.length
  | 0, k, n, a, x, a', _, _, h => by cases h
  | f + 1, k, n, a, x, a', h0, h1, h => by
    rw [numR_succ] at h
    by_cases hlt : a < bs.length
    · rw [if_pos hlt] at h
      have hpos : (0 : Int) < 128 ^ k := Int.pow_pos (by decide)
      obtain ⟨m, hm⟩ : ∃ m, bs.getD a 0 % 128 = m := ⟨_, rfl⟩
      have hm0 : 0 ≤ m ∧ m ≤ 127 := by omega
      rw [hm] at h
      have hmul : m * 128 ^ k ≤ 127 * 128 ^ k := Int.mul_le_mul_of_nonneg_right hm0.2 (Int.le_of_lt hpos)
      have hmul0 : 0 ≤ m * 128 ^ k := Int.mul_nonneg hm0.1 (Int.le_of_lt hpos)
      have hnext : n + m * 128 ^ k < 128 ^ (k + 1) := by rw [Int.pow_succ]; omega
      by_cases c1 : bs.getD a 0 < 128
      · rw [if_pos c1] at h
        by_cases c0 : bs.getD a 0 = 0 ∧ k ≠ 0
        · rw [if_pos c0] at h; cases h
        · rw [if_neg c0] at h
          injection h with h
          injection h with h2 h3
          subst h2 h3
          refine ⟨by omega, ?_, by omega, by omega⟩
          refine Int.lt_of_lt_of_le hnext ?_
          rw [show k + (f + 1) = (k + 1) + f from by omega]
          have h4 : (0 : Int) < 128 ^ (k + 1) := Int.pow_pos (by decide)
          have h5 : (1 : Int) ≤ 128 ^ f := Int.add_one_le_of_lt (Int.pow_pos (by decide))
          have := Int.mul_le_mul_of_nonneg_left h5 (Int.le_of_lt h4)
          rw [Int.mul_one] at this
          rw [show (128 : Int) ^ (k + 1 + f) = 128 ^ (k + 1) * 128 ^ f from Int.pow_add _ _ _]
          exact this
      · rw [if_neg c1] at h
        obtain ⟨i1, i2, i3, i4⟩ := numR_in hB f (k + 1) _ (a + 1) x a' (by omega) hnext h
        exact ⟨i1, by rwa [show k + (f + 1) = k + 1 + f from by omega], by omega, i4⟩
    · rw [if_neg hlt] at h; cases h
theorem numberR_in {bs : List Int} (hB : Bytes bs) {a : Nat} {x : Int} {a' : Nat} (h : numberR bs a = .inr (x, a')) : 0 ≤ x ∧ x < 268435456 ∧ a < a' ∧ a' ≤ bs.length :=
  numR_in hB 4 0 0 a x a' (by decide) (by decide) h
def rbind {α β : Type} (r : RR α) (f : α → Nat → RR β) : RR β :=
  match r with
  | .inl e => .inl e
  | .inr (x, a) => f x a
def textR (bs : List Int) (a : Nat) : RR ByteArray := rbind (numberR bs a) fun n a' => if a' + n.toNat ≤ bs.length then .inr (strOfNums ((bs.drop a').take n.toNat), a' + n.toNat) else .inl (181, bs.length)
def TextRAt (g : Nat) (A : Option Addr) (bs : List Int) (cp : Nat) (d : Int) (w : World) (a : Nat) (n : Nat) (gk : Nat) (v5 : Value) (wr : World) : Prop :=
  ∃ k : Nat, gk = n - k ∧ k ≤ n ∧ v5 = .int .i64 (k : Int) ∧ a + k ≤ bs.length ∧ RdIn g A bs.length cp ((a + k : Nat) : Int) (((a + k : Nat) : Int) + d) wr ∧ But (One g) w wr
set_option maxHeartbeats 4000000 in
theorem text1 {g : Nat} {A : Option Addr} {cp : Nat} {bs : List Int} {at_ : Nat} {d : Int} {w : World} (h : RdIn g A bs.length cp (at_ : Int) ((at_ : Int) + d) w) (hb : BytesFar w g A bs) (hB : Bytes bs) (ha : at_ ≤ bs.length) (hd : 0 ≤ d ∧ d ≤ 100) (hA : ∀ ad, A = some ad → ad.spot = none) (hcp : bs.length ≤ cp) (hcp2 : cp ≤ 9223372036854775807) (hne : 0 < bs.length) :
    Calls Try.prog 48 #[.pointer (some ⟨g, 0, none⟩)] w (RPost g A bs cp d w (One g) (textR bs at_) fun x e _ => e = .returned (.string x)) := by
  have hln := hB.len
  have HN0 := Lib.hid (number0 (cp := cp) h hb hB ha hd)
  have HB := Lib.hid hb
  obtain ⟨R, hR⟩ : ∃ R, numberR bs at_ = R := ⟨_, rfl⟩
  have hT : textR bs at_ = rbind R fun n a' => if a' + n.toNat ≤ bs.length then .inr (strOfNums ((bs.drop a').take n.toNat), a' + n.toNat) else .inl (181, bs.length) := by unfold textR; rw [hR]
  have hin := fun x a' (e : R = .inr (x, a')) => numberR_in hB (hR.trans e)
  rw [hR] at HN0
  obtain ⟨T, hTT⟩ : ∃ T, textR bs at_ = T := ⟨_, rfl⟩
  rw [hTT] at hT ⊢
  clear h hb hR hTT
  rcases R with ⟨c, a'⟩ | ⟨n, a'⟩
  · have E := Lib.hid (show T = .inl (c, a') from hT)
    clear hT hin
    go_enter Try.func48, Try.ntmps48
    go_wp2_with (first | (go_at_call 59; refine HN0.out.mono ?_; rintro e w1 ⟨hb1, rfl, hr1⟩; (have HR1 := Lib.hid hr1); (have HB1 := Lib.hid hb1); clear hr1 hb1))
    exact ⟨rfl, HB1.out, by rw [E.out]; exact ⟨rfl, HR1.out⟩⟩
  · obtain ⟨hn0, hn1, ha1, ha2⟩ := hin n a' rfl
    obtain ⟨m, rfl⟩ : ∃ m : Nat, n = (m : Int) := ⟨n.toNat, by omega⟩
    have E := Lib.hid (show T = if a' + m ≤ bs.length then .inr (strOfNums ((bs.drop a').take m), a' + m) else .inl (181, bs.length) from hT)
    clear hT hin
    go_enter Try.func48, Try.ntmps48
    go_wp2_with (first | (go_at_call 59; refine HN0.out.mono ?_; rintro e w1 ⟨hb1, rfl, hr1⟩; (have q1 : w1.cell? ⟨g, 1, none⟩ = some (.int .i64 (a' : Int)) := blkcell hr1 1 (by simp)); (have HR1 := Lib.hid hr1); (have HB1 := Lib.hid hb1); clear hr1 hb1))
    clear q1
    go_loopg [5] m (fun gk v5 wr => TextRAt g A bs cp d w a' m gk v5 wr)
    case atStart => exact ⟨0, rfl, Nat.zero_le _, rfl, ha2, HR1.out, HB1.out⟩
    case round =>
      obtain ⟨k, hgk, hk, rfl, hak, hr, hbt⟩ := hrel
      have HGK := Lib.hid hgk
      have HR := Lib.hid hr
      have HBt := Lib.hid hbt
      clear hgk hbt
      by_cases hkm : k < m
      · clear hr
        have hkm' : (k : Int) < (m : Int) := by omega
        have dk : decide ((k : Int) < (m : Int)) = true := decide_eq_true hkm'
        by_cases hlt : a' + k < bs.length
        · go_wp2_with (first | (go_at_call 58; refine (byte_ok HR.out (HB.out.but HBt.out) (by omega) hlt (by omega) (by omega)).mono ?_; rintro e w2 ⟨rfl, hr1, hb1⟩; (have HR2 := Lib.hid hr1); (have HB2 := Lib.hid hb1); clear hr1 hb1))
          go_roundg (m - (k + 1))
          case measure => rw [HGK.out]; omega
          case rel => exact ⟨k + 1, rfl, by omega, by go_num, by omega, by have := HR2.out; rw [show ((a' + (k + 1) : Nat) : Int) = ((a' + k : Nat) : Int) + 1 from by omega, show ((a' + k : Nat) : Int) + 1 + d = ((a' + k : Nat) : Int) + d + 1 from by omega]; exact this, HBt.out.trans HB2.out⟩
        · have E2 := Lib.hid (show T = .inl (181, a' + k) from by rw [E.out, if_neg (by omega), show bs.length = a' + k from by omega])
          go_wp2_with (first | (go_at_call 58; refine (byte_no HR.out (by omega) hlt).mono ?_; rintro e w2 ⟨rfl, hr1, hb1⟩; (have HR2 := Lib.hid hr1); (have HB2 := Lib.hid hb1); clear hr1 hb1))
          exact ⟨rfl, HBt.out.trans HB2.out, by rw [E2.out]; exact ⟨rfl, HR2.out⟩⟩
      · obtain rfl : k = m := by omega
        have hkm' : ¬ (k : Int) < (k : Int) := by omega
        have E2 := Lib.hid (show T = .inr (strOfNums ((bs.drop a').take k), a' + k) from by rw [E.out, if_pos hak])
        obtain ⟨ad, hAd, _, _⟩ := HB.out 0 hne
        subst hAd
        have hsp := hA ad rfl
        obtain ⟨b, o, sp⟩ := ad
        dsimp only at hsp
        subst hsp
        have q0 : wr.cell? ⟨g, 0, none⟩ = some (.slice (some ⟨b, o, none⟩) bs.length cp) := blkcell hr 0 (by simp)
        have q1 : wr.cell? ⟨g, 1, none⟩ = some (.int .i64 ((a' + k : Nat) : Int)) := blkcell hr 1 (by simp)
        clear hr
        have hcap : 0 ≤ (a' : Int) + (k : Int) ∧ (a' : Int) + (k : Int) ≤ (cp : Int) := ⟨by omega, by omega⟩
        have htn : ((a' : Int) + (k : Int)).toNat = a' + k := by omega
        obtain ⟨o', hif, hoi⟩ : ∃ o', (if cp = a' then some (⟨b, o, none⟩ : Addr) else some ⟨b, o + a', none⟩) = some ⟨b, o', none⟩ ∧ ∀ i, i < k → o' + i = o + (a' + i) := by
          by_cases hca : cp = a'
          · exact ⟨o, if_pos hca, fun i hi => by omega⟩
          · exact ⟨o + a', if_neg hca, fun i hi => by omega⟩
        have hcv : ∀ nq, (convert 26 9 (.slice (some ⟨b, o', none⟩) k (cp - a'))).run Try.prog (wr.drewN nq) = .ok (.string (strOfNums ((bs.drop a').take k))) (wr.drewN nq) := fun nq => by
          refine run_convert_bytes_arg (wr.drewN nq) 26 5 Try.underlying26 Try.underlying5 b o' k (cp - a') _ (by rw [List.length_take, List.length_drop]; omega) (fun i hi => ?_) 9 Try.underlying9
          obtain ⟨ad2, h1, h2, _⟩ := (HB.out.but HBt.out) (a' + i) (by omega)
          injection h1 with h1
          subst h1
          rw [addr_add] at h2
          rw [hoi i hi]
          show wr.cell? _ = _
          rw [h2, List.getD_eq_getElem?_getD, List.getElem?_take, if_pos hi, List.getElem?_drop, List.getElem?_eq_getElem (by omega)]
          rfl
        clear hoi
        go_wp2_with fail
        go_quiet (fail)
        go_wp2_with fail
        go_ret
        exact ⟨HBt.out.drewN _, by rw [E2.out]; exact ⟨rfl, HR.out⟩⟩
end Go.Proofs.Ytoaopjbgaehpfaa.G
end
section
/- wire's reader: rows of anything. -/
namespace Go.Proofs.Ytoaopjbgaehpfaa.G
open Go.RowKit
attribute [local simp, local go_sem] alloc_drewN setCell_drewN
set_option linter.unusedVariables false
set_option linter.unusedSimpArgs false
set_option maxRecDepth 100000
def repR {α : Type} (f : Nat → RR α) : Nat → Nat → RR (List α)
  | 0, a => .inr ([], a)
  | n + 1, a => rbind (f a) fun x a' => rbind (repR f n a') fun l a'' => .inr (x :: l, a'')
def rowsR {α : Type} (bs : List Int) (f : Nat → RR α) (a : Nat) : RR (List α) := rbind (numberR bs a) fun n a' => repR f n.toNat a'
theorem rbind_assoc {α β γ : Type} (r : RR α) (f : α → Nat → RR β) (g : β → Nat → RR γ) : rbind (rbind r f) g = rbind r fun x a => rbind (f x a) g := by
  rcases r with ⟨c, a⟩ | ⟨x, a⟩ <;> rfl
theorem rbind_inr {α : Type} (r : RR α) : (rbind r fun x a => .inr (x, a)) = r := by rcases r with ⟨c, a⟩ | ⟨x, a⟩ <;> rfl
/-- What a row's reading leaves. -/
def RowPost {α : Type} (Bad : Nat → World → Prop) (Inv : Nat → List α → World → Prop) (r : RR (List α)) (e : Ending) (w' : World) : Prop :=
  match r with
  | .inl (c, a) => e = .panicked [stopE c] ∧ Bad a w'
  | .inr (l, a) => e = .returned (.tuple #[]) ∧ Inv a l w'
def OnePost {α : Type} (Bad : Nat → World → Prop) (Inv : Nat → List α → World → Prop) (l : List α) (r : RR α) (e : Ending) (w' : World) : Prop :=
  match r with
  | .inl (c, a) => e = .panicked [stopE c] ∧ Bad a w'
  | .inr (x, a) => e = .returned (.tuple #[]) ∧ Inv a (l ++ [x]) w'
def RowsAt {α : Type} (f : Nat → RR α) (Inv : Nat → List α → World → Prop) (R : RR (List α)) (gk : Nat) (v4 : Value) (wr : World) : Prop :=
  ∃ m a : Nat, ∃ l : List α, gk = m ∧ v4 = .int .i64 (m : Int) ∧ l.length + m < 268435456 ∧ Inv a l wr ∧ (rbind (repR f m a) fun l2 a' => .inr (l ++ l2, a')) = R
set_option maxHeartbeats 4000000 in
theorem rows1 {α : Type} {g : Nat} {A : Option Addr} {cp : Nat} {bs : List Int} {at_ : Nat} {d : Int} {w : World} (h : RdIn g A bs.length cp (at_ : Int) ((at_ : Int) + d) w) (hb : BytesFar w g A bs) (hB : Bytes bs) (ha : at_ ≤ bs.length) (hd : 0 ≤ d ∧ d ≤ 100)
    (F : FuncId) (cap : Array Value) (f : Nat → RR α) (Inv : Nat → List α → World → Prop) (Bad : Nat → World → Prop)
    (hent : ∀ (args : Array Value) (w : World), (callFunc F args).run Try.prog w = .ok (.enter F args) w)
    (hinit : ∀ (a : Nat) (w1 : World), a ≤ bs.length → But (One g) w w1 → RdIn g A bs.length cp (a : Int) ((a : Int) + d) w1 → Inv a [] w1)
    (hbad : ∀ (a : Nat) (w1 : World), But (One g) w w1 → RdIn g A bs.length cp (a : Int) ((a : Int) + d) w1 → Bad a w1)
    (hstep : ∀ (a : Nat) (l : List α) (w1 : World), l.length < 268435456 → Inv a l w1 → Calls Try.prog F cap w1 (OnePost Bad Inv l (f a))) :
    Calls Try.prog 46 #[.pointer (some ⟨g, 0, none⟩), .func (.func F) #[] cap] w (RowPost Bad Inv (rowsR bs f at_)) := by
  have HN0 := Lib.hid (number0 (cp := cp) h hb hB ha hd)
  obtain ⟨R, hR⟩ : ∃ R, numberR bs at_ = R := ⟨_, rfl⟩
  have hT : rowsR bs f at_ = rbind R fun n a' => repR f n.toNat a' := by unfold rowsR; rw [hR]
  have hin := fun x a' (e : R = .inr (x, a')) => numberR_in hB (hR.trans e)
  rw [hR] at HN0
  obtain ⟨T, hTT⟩ : ∃ T, rowsR bs f at_ = T := ⟨_, rfl⟩
  rw [hTT] at hT ⊢
  have HI := Lib.hid hinit
  have HBD := Lib.hid hbad
  have HST := Lib.hid hstep
  clear h hb hR hTT hinit hbad hstep
  rcases R with ⟨c, a'⟩ | ⟨n, a'⟩
  · have E := Lib.hid (show T = .inl (c, a') from hT)
    clear hT hin
    go_enter Try.func46, Try.ntmps46
    go_wp2_with (first | (go_at_call 59; refine HN0.out.mono ?_; rintro e w1 ⟨hb1, rfl, hr1⟩; (have HR1 := Lib.hid hr1); (have HB1 := Lib.hid hb1); clear hr1 hb1))
    exact ⟨rfl, by rw [E.out]; exact ⟨rfl, HBD.out _ _ HB1.out HR1.out⟩⟩
  · obtain ⟨hn0, hn1, ha1, ha2⟩ := hin n a' rfl
    obtain ⟨m, rfl⟩ : ∃ m : Nat, n = (m : Int) := ⟨n.toNat, by omega⟩
    have E := Lib.hid (show T = repR f m a' from hT)
    clear hT hin
    go_enter Try.func46, Try.ntmps46
    go_wp2_with (first | (go_at_call 59; refine HN0.out.mono ?_; rintro e w1 ⟨hb1, rfl, hr1⟩; (have HI1 := Lib.hid (HI.out a' w1 ha2 hb1 hr1)); clear hr1 hb1))
    go_loopg [4] m (fun gk v4 wr => RowsAt f Inv T gk v4 wr)
    case atStart => exact ⟨m, a', [], rfl, rfl, by simp only [List.length_nil]; omega, HI1.out, by rw [E.out]; exact rbind_inr _⟩
    case round =>
      obtain ⟨k, a, l, hgk, rfl, hk, hinv, hT⟩ := hrel
      have HGK := Lib.hid hgk
      have HINV := Lib.hid hinv
      have HT := Lib.hid hT
      clear hgk hinv hT HN0
      cases k with
      | zero =>
        have hk0 : ¬ (0 : Int) < ((0 : Nat) : Int) := by decide
        have E2 := Lib.hid (show T = .inr (l, a) from by rw [← HT.out]; show Sum.inr (l ++ [], a) = _; rw [List.append_nil])
        go_wp2_with fail
        go_end0
        rw [E2.out]
        exact ⟨rfl, HINV.out⟩
      | succ k =>
        have hk0 : (0 : Int) < ((k + 1 : Nat) : Int) := by omega
        have hk1 : (0 : Int) < (k : Int) + 1 := by omega
        have hll : l.length < 268435456 := by omega
        have HS := Lib.hid (HST.out a l wr hll HINV.out)
        obtain ⟨r, hr⟩ : ∃ r, f a = r := ⟨_, rfl⟩
        have hT2 : T = rbind r fun x a' => rbind (repR f k a') fun l2 a'' => .inr (l ++ [x] ++ l2, a'') := by
          rw [← HT.out]
          show rbind (rbind (f a) fun x a' => rbind (repR f k a') fun l a'' => .inr (x :: l, a'')) _ = _
          rw [hr, rbind_assoc]
          congr 1
          funext x a'
          rw [rbind_assoc]
          congr 1
          funext l2 a''
          show Sum.inr (l ++ x :: l2, a'') = _
          rw [List.append_assoc]
          rfl
        rw [hr] at HS
        clear hr
        rcases r with ⟨c, a2⟩ | ⟨x, a2⟩
        · have E2 := Lib.hid (show T = .inl (c, a2) from hT2)
          clear hT2
          go_wp2_with (first | (refine HS.out.mono ?_; rintro e w2 ⟨rfl, hb2⟩; (have HB2 := Lib.hid hb2); clear hb2))
          exact ⟨rfl, by rw [E2.out]; exact ⟨rfl, HB2.out⟩⟩
        · have E2 := Lib.hid hT2
          clear hT2
          go_wp2_with (first | (refine HS.out.mono ?_; rintro e w2 ⟨rfl, hi2⟩; (have HI2 := Lib.hid hi2); clear hi2))
          go_roundg k
          case measure => rw [HGK.out]; omega
          case rel => exact ⟨k, a2, l ++ [x], rfl, by go_num, by rw [List.length_append, List.length_cons, List.length_nil]; omega, HI2.out, E2.out.symm⟩
end Go.Proofs.Ytoaopjbgaehpfaa.G
end
section
/- wire's reader: a step. -/
namespace Go.Proofs.Ytoaopjbgaehpfaa.G
open Go.RowKit
attribute [local simp, local go_sem] alloc_drewN setCell_drewN
set_option linter.unusedVariables false
set_option linter.unusedSimpArgs false
set_option maxRecDepth 100000
def byteR (bs : List Int) (a : Nat) : RR Int := if a < bs.length then .inr (bs.getD a 0, a + 1) else .inl (181, a)
def stepR (bs : List Int) (a : Nat) : RR (Int × Int) := rbind (byteR bs a) fun c a' => if 1 ≤ c ∧ c ≤ 13 then (if saysB c = true then rbind (numberR bs a') fun n a'' => .inr ((c, n), a'') else .inr ((c, 0), a')) else .inl (182, a')
theorem RdIn.next {g : Nat} {A : Option Addr} {n cp a : Nat} {d : Int} {w : World} (h : RdIn g A n cp ((a : Int) + 1) ((a : Int) + d + 1) w) : RdIn g A n cp ((a + 1 : Nat) : Int) (((a + 1 : Nat) : Int) + d) w := by
  rw [show ((a + 1 : Nat) : Int) = (a : Int) + 1 from by omega, show (a : Int) + 1 + d = (a : Int) + d + 1 from by omega]
  exact h
/-- A reader at work: where it is, and its bytes. -/
structure Rdr (g : Nat) (A : Option Addr) (bs : List Int) (cp : Nat) (d : Int) (a : Nat) (w : World) : Prop where
  rd : RdIn g A bs.length cp (a : Int) ((a : Int) + d) w
  far : BytesFar w g A bs
  le : a ≤ bs.length
structure Base (A : Option Addr) (bs : List Int) (cp : Nat) (d : Int) : Prop where
  bytes : Bytes bs
  dr : 0 ≤ d ∧ d ≤ 100
  spot : ∀ ad, A = some ad → ad.spot = none
  room : bs.length ≤ cp
  room2 : cp ≤ 9223372036854775807
  ne : 0 < bs.length
theorem Rdr.alloc {g : Nat} {A : Option Addr} {bs : List Int} {cp : Nat} {d : Int} {a : Nat} {w : World} (h : Rdr g A bs cp d a w) (o : Obj) : Rdr g A bs cp d a (w.alloc o) :=
  ⟨blkold h.rd o, fun i hi => by obtain ⟨ad, h1, h2, h3⟩ := h.far i hi; exact ⟨ad, h1, ((But.refl No w).alloc o).cell_some h2 (fun c => c), h3⟩, h.le⟩
theorem Rdr.lt {g : Nat} {A : Option Addr} {bs : List Int} {cp : Nat} {d : Int} {a : Nat} {w : World} (h : Rdr g A bs cp d a w) : g < w.heap.size := lt_of_block h.rd
theorem Rdr.next {g : Nat} {A : Option Addr} {bs : List Int} {cp : Nat} {d : Int} {a a' : Nat} {w w' : World} (h : Rdr g A bs cp d a w) (hb : But (One g) w w') (hr : RdIn g A bs.length cp (a' : Int) ((a' : Int) + d) w') (hle : a' ≤ bs.length) : Rdr g A bs cp d a' w' :=
  ⟨hr, h.far.but hb, hle⟩
set_option maxHeartbeats 4000000 in
theorem step0 {g : Nat} {A : Option Addr} {cp : Nat} {bs : List Int} {at_ : Nat} {d : Int} {w : World} (h : Rdr g A bs cp d at_ w) (hB : Base A bs cp d) :
    Calls Try.prog 71 #[.pointer (some ⟨g, 0, none⟩)] w (RPost g A bs cp d w (One g) (stepR bs at_) fun x e _ => e = .returned (.agg #[.int .i64 x.1, .int .i64 x.2])) := by
  have hln := hB.bytes.len
  have hd := hB.dr
  have hgl := h.lt
  have hle := h.le
  have H0 := Lib.hid (h.alloc (.cells #[.int .i64 0, .int .i64 0] 79))
  obtain ⟨T, hT⟩ : ∃ T, stepR bs at_ = T := ⟨_, rfl⟩
  rw [hT]
  unfold stepR byteR at hT
  have HBS := Lib.hid hB.bytes
  clear h
  by_cases hlt : at_ < bs.length
  case neg =>
    rw [if_neg hlt] at hT
    have E := Lib.hid (show T = .inl (181, at_) from hT.symm)
    clear hT
    go_enter Try.func71, Try.ntmps71
    go_wp2_with (first | (go_at_call 58; refine (byte_no H0.out.rd (by omega) hlt).mono ?_; rintro e w1 ⟨rfl, hr1, hb1⟩; (have HR1 := Lib.hid hr1); (have HB1 := Lib.hid ((But.refl (One g) w).alloc _ |>.trans hb1)); clear hr1 hb1))
    exact ⟨rfl, HB1.out, by rw [E.out]; exact ⟨rfl, HR1.out⟩⟩
  rw [if_pos hlt] at hT
  have hgd : bs.getD at_ 0 = bs[at_] := by rw [List.getD_eq_getElem?_getD, List.getElem?_eq_getElem hlt]; rfl
  have hrng := hB.bytes.rng _ (List.getElem_mem hlt)
  obtain ⟨x, hx⟩ : ∃ x, bs[at_] = x := ⟨_, rfl⟩
  rw [hgd, hx] at hT
  rw [hx] at hrng
  have HX := Lib.hid hx
  have hT2 : (if 1 ≤ x ∧ x ≤ 13 then (if saysB x = true then rbind (numberR bs (at_ + 1)) fun n a'' => .inr ((x, n), a'') else .inr ((x, 0), at_ + 1)) else .inl (182, at_ + 1)) = T := hT
  clear hgd hx hT
  by_cases hk1 : 1 ≤ x
  case neg =>
    rw [if_neg (by omega)] at hT2
    have E := Lib.hid hT2.symm
    clear hT2
    go_enter Try.func71, Try.ntmps71
    go_wp2_with (first | (go_at_call 58; refine (byte_ok H0.out.rd H0.out.far (by omega) hlt (by omega) (by omega)).mono ?_; rw [HX.out]; rintro e w1 ⟨rfl, hr1, hb1⟩; (have HR1 := Lib.hid hr1.next); (have HB1 := Lib.hid ((But.refl (One g) w).alloc _ |>.trans hb1)); clear hr1 hb1) | (go_at_call 51; refine (must_no 182 _).mono ?_; rintro e w2 ⟨rfl, rfl⟩))
    exact ⟨rfl, HB1.out.alloc _, by rw [E.out]; exact ⟨rfl, blkold HR1.out _⟩⟩
  have hk1' : decide (1 ≤ x) = true := decide_eq_true hk1
  by_cases hk2 : x ≤ 13
  case neg =>
    rw [if_neg (by omega)] at hT2
    have E := Lib.hid hT2.symm
    have hk2' : decide (x ≤ 13) = false := decide_eq_false hk2
    clear hT2
    go_enter Try.func71, Try.ntmps71
    go_wp2_with (first | (go_at_call 58; refine (byte_ok H0.out.rd H0.out.far (by omega) hlt (by omega) (by omega)).mono ?_; rw [HX.out]; rintro e w1 ⟨rfl, hr1, hb1⟩; (have hwl1 : w.heap.size < w1.heap.size := by (have := hb1.size; simp at this; omega)); (have HQ := Lib.hid ((hb1.block w.heap.size (by simp) (by show ¬ w.heap.size = g; omega)).trans (heap_alloc_new w _))); (have hq1 := (hb1.block w.heap.size (by simp) (by show ¬ w.heap.size = g; omega)).trans (heap_alloc_new w _)); (have t20 : w1.cell? ⟨w.heap.size, 0, none⟩ = some (.int .i64 0) := blkcell hq1 0 (by simp)); (have t21 : w1.cell? ⟨w.heap.size, 1, none⟩ = some (.int .i64 0) := blkcell hq1 1 (by simp)); (have t2f : ∀ i, w1.frozen? ⟨w.heap.size, i, none⟩ = false := blkfree hq1); (have hwn1 : ¬ w.heap.size = w1.heap.size := by omega); (have hwn2 : ¬ w1.heap.size = w.heap.size := by omega); clear hq1; (have HRD := Lib.hid (H0.out.next hb1 hr1.next hlt)); (have HB1 := Lib.hid ((But.refl (One g) w).alloc _ |>.trans hb1)); clear hr1 hb1) | (go_at_call 51; refine (must_no 182 _).mono ?_; rintro e w2 ⟨rfl, rfl⟩))
    exact ⟨rfl, HB1.out.alloc _, by rw [E.out]; exact ⟨rfl, blkold HRD.out.rd _⟩⟩
  have hk2' : decide (x ≤ 13) = true := decide_eq_true hk2
  rw [if_pos ⟨hk1, hk2⟩] at hT2
  obtain ⟨b, hsb⟩ : ∃ b, saysB x = b := ⟨_, rfl⟩
  have HSB := Lib.hid hsb
  rw [hsb] at hT2
  clear hsb
  cases b with
  | false =>
    have E := Lib.hid (show T = .inr ((x, 0), at_ + 1) from hT2.symm)
    clear hT2
    go_enter Try.func71, Try.ntmps71
    go_wp2_with (first | (go_at_call 58; refine (byte_ok H0.out.rd H0.out.far (by omega) hlt (by omega) (by omega)).mono ?_; rw [HX.out]; rintro e w1 ⟨rfl, hr1, hb1⟩; (have hwl1 : w.heap.size < w1.heap.size := by (have := hb1.size; simp at this; omega)); (have HQ := Lib.hid ((hb1.block w.heap.size (by simp) (by show ¬ w.heap.size = g; omega)).trans (heap_alloc_new w _))); (have hq1 := (hb1.block w.heap.size (by simp) (by show ¬ w.heap.size = g; omega)).trans (heap_alloc_new w _)); (have t20 : w1.cell? ⟨w.heap.size, 0, none⟩ = some (.int .i64 0) := blkcell hq1 0 (by simp)); (have t21 : w1.cell? ⟨w.heap.size, 1, none⟩ = some (.int .i64 0) := blkcell hq1 1 (by simp)); (have t2f : ∀ i, w1.frozen? ⟨w.heap.size, i, none⟩ = false := blkfree hq1); (have hwn1 : ¬ w.heap.size = w1.heap.size := by omega); (have hwn2 : ¬ w1.heap.size = w.heap.size := by omega); clear hq1; (have HRD := Lib.hid (H0.out.next hb1 hr1.next hlt)); (have HB1 := Lib.hid ((But.refl (One g) w).alloc _ |>.trans hb1)); clear hr1 hb1) | (go_at_call 51; refine (must_ok 182 _).mono ?_; rintro e w2 ⟨rfl, rfl⟩) | (go_at_call 43; refine (says1 x _).mono ?_; rw [HSB.out]; rintro e w3 ⟨rfl, rfl⟩))
    have hfin := blkold (blkset (blkset HQ.out 0 (.int .i64 x)) 1 (.int .i64 0)) (.cells #[.int .i64 x, .int .i64 0] 79)
    simp only [List.setIfInBounds_toArray, List.set_cons_zero, List.set_cons_succ] at hfin
    refine bodyPost_ret (results_cell_row rfl _ _ w.heap.size 79 #[.int .i64 x, .int .i64 0] (0, 0) _ rfl hfin Try.underlying79 rfl (by kernel_rfl)) rfl ?_
    have hbf : But (One g) w w1 := HB1.out
    exact ⟨((hbf.setCell (p := ⟨w.heap.size, 0, none⟩) (.inr (Nat.le_refl _)) _).setCell (p := ⟨w.heap.size, 1, none⟩) (.inr (Nat.le_refl _)) _).alloc _, by rw [E.out]; exact ⟨rfl, blkold (blkfar (blkfar HRD.out.rd (p := ⟨w.heap.size, 0, none⟩) (by show g ≠ w.heap.size; omega) _) (p := ⟨w.heap.size, 1, none⟩) (by show g ≠ w.heap.size; omega) _) _⟩⟩
  | true =>
    have hT3 : rbind (numberR bs (at_ + 1)) (fun n a'' => (.inr ((x, n), a'') : RR (Int × Int))) = T := hT2
    obtain ⟨R, hR⟩ : ∃ R, numberR bs (at_ + 1) = R := ⟨_, rfl⟩
    have hin := fun x a' (e : R = .inr (x, a')) => numberR_in hB.bytes (hR.trans e)
    have HNM := Lib.hid (fun (W : World) (hW : Rdr g A bs cp d (at_ + 1) W) => number0 hW.rd hW.far HBS.out hW.le hd)
    rw [hR] at hT3 HNM
    clear hT2 hR
    rcases R with ⟨c, a'⟩ | ⟨n, a'⟩
    · have E := Lib.hid (show T = .inl (c, a') from hT3.symm)
      clear hT3 hin
      go_enter Try.func71, Try.ntmps71
      go_wp2_with (first | (go_at_call 58; refine (byte_ok H0.out.rd H0.out.far (by omega) hlt (by omega) (by omega)).mono ?_; rw [HX.out]; rintro e w1 ⟨rfl, hr1, hb1⟩; (have hwl1 : w.heap.size < w1.heap.size := by (have := hb1.size; simp at this; omega)); (have HQ := Lib.hid ((hb1.block w.heap.size (by simp) (by show ¬ w.heap.size = g; omega)).trans (heap_alloc_new w _))); (have hq1 := (hb1.block w.heap.size (by simp) (by show ¬ w.heap.size = g; omega)).trans (heap_alloc_new w _)); (have t20 : w1.cell? ⟨w.heap.size, 0, none⟩ = some (.int .i64 0) := blkcell hq1 0 (by simp)); (have t21 : w1.cell? ⟨w.heap.size, 1, none⟩ = some (.int .i64 0) := blkcell hq1 1 (by simp)); (have t2f : ∀ i, w1.frozen? ⟨w.heap.size, i, none⟩ = false := blkfree hq1); (have hwn1 : ¬ w.heap.size = w1.heap.size := by omega); (have hwn2 : ¬ w1.heap.size = w.heap.size := by omega); clear hq1; (have HRD := Lib.hid (H0.out.next hb1 hr1.next hlt)); (have HB1 := Lib.hid ((But.refl (One g) w).alloc _ |>.trans hb1)); clear hr1 hb1) | (go_at_call 51; refine (must_ok 182 _).mono ?_; rintro e w2 ⟨rfl, rfl⟩) | (go_at_call 43; refine (says1 x _).mono ?_; rw [HSB.out]; rintro e w3 ⟨rfl, rfl⟩) | (go_at_call 59; refine (HNM.out _ (HRD.out.alloc _)).mono ?_; rintro e w4 ⟨hb4, rfl, hr4⟩; (have hq2 := (hb4.block w1.heap.size (by simp) (by show ¬ w1.heap.size = g; omega)).trans (heap_alloc_new w1 _)); (have t30 : w4.cell? ⟨w1.heap.size, 0, none⟩ = some (.int .i64 x) := blkcell hq2 0 (by simp)); (have t31 : w4.cell? ⟨w1.heap.size, 1, none⟩ = some (.int .i64 0) := blkcell hq2 1 (by simp)); (have t3f : ∀ i, w4.frozen? ⟨w1.heap.size, i, none⟩ = false := blkfree hq2); (have hq3 := (hb4.block w.heap.size (by simp; omega) (by show ¬ w.heap.size = g; omega)).trans (blkold HQ.out _)); (have t40 : w4.cell? ⟨w.heap.size, 0, none⟩ = some (.int .i64 0) := blkcell hq3 0 (by simp)); (have t41 : w4.cell? ⟨w.heap.size, 1, none⟩ = some (.int .i64 0) := blkcell hq3 1 (by simp)); (have t4f : ∀ i, w4.frozen? ⟨w.heap.size, i, none⟩ = false := blkfree hq3); (have HR4 := Lib.hid hr4); (have HQ3 := Lib.hid hq3); clear hq2 hq3; (have HB4 := Lib.hid ((HB1.out.alloc _).trans hb4)); clear hb4 hr4))
      exact ⟨rfl, HB4.out, by rw [E.out]; exact ⟨rfl, HR4.out⟩⟩
    · have E := Lib.hid (show T = .inr ((x, n), a') from hT3.symm)
      have hin2 := hin n a' rfl
      clear hT3 hin
      go_enter Try.func71, Try.ntmps71
      go_wp2_with (first | (go_at_call 58; refine (byte_ok H0.out.rd H0.out.far (by omega) hlt (by omega) (by omega)).mono ?_; rw [HX.out]; rintro e w1 ⟨rfl, hr1, hb1⟩; (have hwl1 : w.heap.size < w1.heap.size := by (have := hb1.size; simp at this; omega)); (have HQ := Lib.hid ((hb1.block w.heap.size (by simp) (by show ¬ w.heap.size = g; omega)).trans (heap_alloc_new w _))); (have hq1 := (hb1.block w.heap.size (by simp) (by show ¬ w.heap.size = g; omega)).trans (heap_alloc_new w _)); (have t20 : w1.cell? ⟨w.heap.size, 0, none⟩ = some (.int .i64 0) := blkcell hq1 0 (by simp)); (have t21 : w1.cell? ⟨w.heap.size, 1, none⟩ = some (.int .i64 0) := blkcell hq1 1 (by simp)); (have t2f : ∀ i, w1.frozen? ⟨w.heap.size, i, none⟩ = false := blkfree hq1); (have hwn1 : ¬ w.heap.size = w1.heap.size := by omega); (have hwn2 : ¬ w1.heap.size = w.heap.size := by omega); clear hq1; (have HRD := Lib.hid (H0.out.next hb1 hr1.next hlt)); (have HB1 := Lib.hid ((But.refl (One g) w).alloc _ |>.trans hb1)); clear hr1 hb1) | (go_at_call 51; refine (must_ok 182 _).mono ?_; rintro e w2 ⟨rfl, rfl⟩) | (go_at_call 43; refine (says1 x _).mono ?_; rw [HSB.out]; rintro e w3 ⟨rfl, rfl⟩) | (go_at_call 59; refine (HNM.out _ (HRD.out.alloc _)).mono ?_; rintro e w4 ⟨hb4, rfl, hr4⟩; (have hq2 := (hb4.block w1.heap.size (by simp) (by show ¬ w1.heap.size = g; omega)).trans (heap_alloc_new w1 _)); (have t30 : w4.cell? ⟨w1.heap.size, 0, none⟩ = some (.int .i64 x) := blkcell hq2 0 (by simp)); (have t31 : w4.cell? ⟨w1.heap.size, 1, none⟩ = some (.int .i64 0) := blkcell hq2 1 (by simp)); (have t3f : ∀ i, w4.frozen? ⟨w1.heap.size, i, none⟩ = false := blkfree hq2); (have hq3 := (hb4.block w.heap.size (by simp; omega) (by show ¬ w.heap.size = g; omega)).trans (blkold HQ.out _)); (have t40 : w4.cell? ⟨w.heap.size, 0, none⟩ = some (.int .i64 0) := blkcell hq3 0 (by simp)); (have t41 : w4.cell? ⟨w.heap.size, 1, none⟩ = some (.int .i64 0) := blkcell hq3 1 (by simp)); (have t4f : ∀ i, w4.frozen? ⟨w.heap.size, i, none⟩ = false := blkfree hq3); (have HR4 := Lib.hid hr4); (have HQ3 := Lib.hid hq3); clear hq2 hq3; (have HB4 := Lib.hid ((HB1.out.alloc _).trans hb4)); clear hb4 hr4))
      have hfin := blkset (blkset (blkfar HQ3.out (p := ⟨w1.heap.size, 1, none⟩) hwn1 (.int .i64 n)) 0 (.int .i64 x)) 1 (.int .i64 n)
      simp only [List.setIfInBounds_toArray, List.set_cons_zero, List.set_cons_succ] at hfin
      refine bodyPost_ret (results_cell_row rfl _ _ w.heap.size 79 #[.int .i64 x, .int .i64 n] (0, 0) _ rfl hfin Try.underlying79 rfl (by kernel_rfl)) rfl ?_
      have hbf : But (One g) w w4 := HB4.out
      exact ⟨((hbf.setCell (p := ⟨w1.heap.size, 1, none⟩) (.inr (by show w.heap.size ≤ w1.heap.size; omega)) _).setCell (p := ⟨w.heap.size, 0, none⟩) (.inr (Nat.le_refl _)) _).setCell (p := ⟨w.heap.size, 1, none⟩) (.inr (Nat.le_refl _)) _, by rw [E.out]; exact ⟨rfl, blkfar (blkfar (blkfar HR4.out (p := ⟨w1.heap.size, 1, none⟩) (by show g ≠ w1.heap.size; omega) _) (p := ⟨w.heap.size, 0, none⟩) (by show g ≠ w.heap.size; omega) _) (p := ⟨w.heap.size, 1, none⟩) (by show g ≠ w.heap.size; omega) _⟩⟩
end Go.Proofs.Ytoaopjbgaehpfaa.G
end
