/- wire's reader: variables, preds, texts laid into their rows. -/
import Derived.Test.YtoaopjbgaehpfaaQJv
namespace Go.Proofs.Ytoaopjbgaehpfaa.G
open Go.RowKit
attribute [local simp, local go_sem] alloc_drewN setCell_drewN
set_option linter.unusedVariables false
set_option linter.unusedSimpArgs false
set_option maxRecDepth 100000
def pvE : El Try.prog 81 49 (Int × Int) where
  enc q := [.int .i64 q.1, .int .i64 q.2]
  sz := 2
  wd := 16
  zero := .agg #[.int .i64 0, .int .i64 0]
  hpos := by decide
  henc _ := rfl
  hone q u hu := by
    simp only [List.mem_cons, List.not_mem_nil, or_false] at hu
    rcases hu with rfl | rfl <;> rfl
  hi := by kernel_rfl
  hzs := rfl
  hu := Try.underlying49
def inE : El Try.prog 3 50 Int where
  enc q := [.int .i64 q]
  sz := 1
  wd := 8
  zero := .int .i64 0
  hpos := by decide
  henc _ := rfl
  hone q u hu := by
    simp only [List.mem_cons, List.not_mem_nil, or_false] at hu
    subst hu
    rfl
  hi := by kernel_rfl
  hzs := rfl
  hu := Try.underlying50
def sgE : El Try.prog 9 22 ByteArray where
  enc q := [.string q]
  sz := 1
  wd := 16
  zero := .string ByteArray.empty
  hpos := by decide
  henc _ := rfl
  hone q u hu := by
    simp only [List.mem_cons, List.not_mem_nil, or_false] at hu
    subst hu
    rfl
  hi := by kernel_rfl
  hzs := rfl
  hu := Try.underlying22
def rlE : El Try.prog 58 48 ((Option Addr × Nat × Nat) × Int) where
  enc q := [.slice q.1.1 q.1.2.1 q.1.2.2, .int .i64 q.2]
  sz := 2
  wd := 32
  zero := .agg #[.slice none 0 0, .int .i64 0]
  hpos := by decide
  henc _ := rfl
  hone q u hu := by
    simp only [List.mem_cons, List.not_mem_nil, or_false] at hu
    rcases hu with rfl | rfl <;> rfl
  hi := by kernel_rfl
  hzs := rfl
  hu := Try.underlying48
/-- A job as it lies: what it has once, its Allow, its three rows. -/
structure JobV where
  one : JobN
  allow : Bool
  rules : Option Addr × Nat × Nat
  vars : Option Addr × Nat × Nat
  preds : Option Addr × Nat × Nat
def jbE : El Try.prog 52 23 JobV where
  enc q := [.int .i64 q.one.name, .int .i64 q.one.run, .int .i64 q.one.stage, .int .i64 q.one.when_, .bool q.allow, .int .i64 q.one.weight, .slice q.rules.1 q.rules.2.1 q.rules.2.2, .slice q.vars.1 q.vars.2.1 q.vars.2.2, .slice q.preds.1 q.preds.2.1 q.preds.2.2]
  sz := 9
  wd := 120
  zero := .agg #[.int .i64 0, .int .i64 0, .int .i64 0, .int .i64 0, .bool false, .int .i64 0, .slice none 0 0, .slice none 0 0, .slice none 0 0]
  hpos := by decide
  henc _ := rfl
  hone q u hu := by
    simp only [List.mem_cons, List.not_mem_nil, or_false] at hu
    rcases hu with rfl | rfl | rfl | rfl | rfl | rfl | rfl | rfl | rfl <;> rfl
  hi := by kernel_rfl
  hzs := rfl
  hu := Try.underlying23

set_option maxHeartbeats 4000000 in
theorem jobPred {σ : Type} {g : Nat} {A : Option Addr} {bs : List Int} {cp : Nat} {d : Int} {w0 : World} {rb o : Nat} {cs0 : Array Value} {X : List σ → List Int → World → Prop} {a : Nat} {l : List σ} {w : World} (f : Nat → RR σ) (Y : World → σ → Int → World → Prop)
    (h : BoxInv g A bs cp d w0 rb o 52 cs0 8 inE X a l w) (hl : l.length < 268435456) (hcs : 8 < cs0.size) (ho : w0.heap.size ≤ o) (hgw : g < w0.heap.size) (hAo : ∀ ad, A = some ad → ad.block < w0.heap.size) (hbt : 52 ≠ 3)
    (hcall : ∀ W, Rdr g A bs cp d a W → Calls Try.prog 59 #[.pointer (some ⟨g, 0, none⟩)] W (RPost g A bs cp d W (One g) (f a) fun x e W' => ∃ x', e = .returned (.int .i64 x') ∧ Y W x x' W'))
    (hle : ∀ x a', f a = .inr (x, a') → a' ≤ bs.length)
    (hX1 : ∀ ls lv W W', But (One g) W W' → X ls lv W → X ls lv W')
    (hX2 : ∀ ls lv x x' W0 W W', But (One g) w0 W → W0.heap.size ≤ W.heap.size → o < W0.heap.size → (∃ cs, W.heap[o]? = some (.cells cs 52 (0, 0))) → X ls lv W → Y W0 x x' W → But (Lay g o 3 W) W W' → X (ls ++ [x]) (lv ++ [x']) W') :
    Calls Try.prog 63 #[.pointer (some ⟨o, 0, none⟩), .pointer (some ⟨rb, 0, none⟩)] w (OnePost (BadR g A bs cp d w0) (BoxInv g A bs cp d w0 rb o 52 cs0 8 inE X) l (f a)) := by
  obtain ⟨v, lv, hbox, hown, hlv, hx⟩ := h.box
  have hrd := h.rdr
  have hbt0 := h.but
  have hog : o ≠ g := by omega
  have hrb := h.rbx
  have q0 : w.cell? ⟨o, 8, none⟩ = some v := by
    rw [cell_of_row w o 8 _ _ _ hbox]
    simp [hcs]
  have q1 : w.cell? ⟨rb, 0, none⟩ = some (.pointer (some ⟨g, 0, none⟩)) := blkcell hrb 0 (by simp)
  have HBOX := Lib.hid hbox
  have HOWN := Lib.hid hown
  have HX := Lib.hid hx
  have HRD := Lib.hid hrd
  have HB0 := Lib.hid hbt0
  have HRB := Lib.hid hrb
  have hlvl : lv.length < 268435456 := by omega
  have HLV := Lib.hid hlv
  have hsz0 := hbt0.size
  have hol := lt_of_block hbox
  have hrbl := lt_of_block hrb
  have hrbo : rb ≠ o := by
    intro e
    rw [e, hbox] at hrb
    injection hrb with hrb
    injection hrb with _ h2
    exact absurd h2 (by decide)
  have hrbg : rb ≠ g := by
    intro e
    have h1 := hrd.rd
    unfold RdIn at h1
    rw [← e, hrb] at h1
    injection h1 with h1
    injection h1 with _ h2
    exact absurd h2 (by decide)
  have HCALL := Lib.hid hcall
  have HX1 := Lib.hid hX1
  have HX2 := Lib.hid hX2
  obtain ⟨r, hr⟩ : ∃ r, f a = r := ⟨_, rfl⟩
  have HLE := Lib.hid hle
  rw [hr] at HCALL HLE ⊢
  obtain ⟨Av, nv, cv, hv⟩ : ∃ A n c, v = Value.slice A n c := (by obtain ⟨A, c, h⟩ := hown.slice; exact ⟨A, _, c, h⟩)
  subst hv
  clear h hbox hown hx hrd hbt0 hrb hcall hX1 hX2 hlv hr hle
  go_enter Try.func63, Try.ntmps63
  go_wp2_with fail
  refine wp_region_held_drew (S := fun w' => w'.cell? ⟨rb, 0, none⟩ = some (.pointer (some ⟨g, 0, none⟩))) (by kernel_rfl) q1 (fun hS => ?_)
  refine takeE 0 (some 2) rfl rfl (fun w e1 => by go_simp <;> (with_reducible rfl)) hS ?_
  simp only [putS]
  refine takeE 2 (some 4) rfl rfl (fun w e1 => by go_simp <;> (with_reducible rfl)) hS ?_
  simp only [putS]
  refine wpAnyH_ready (rs := [1, 3]) (by kernel_rfl) (by simp) (AllReadyH.cons rfl (fun A1 hA1 => ?_) (AllReadyH.cons rfl (fun A2 hA2 => ?_) AllReadyH.nil))
  · skip
    rw [if_pos (by kernel_rfl)]
    go_simp
    refine hA1.out _ _ (q1) (fun hS => ?_)
    try simp only [putS, List.getElem_toArray, List.getElem_cons_zero, List.getElem_cons_succ]
    refine wpAnyH_ready (rs := [3]) (by kernel_rfl) (by simp) (AllReadyH.cons rfl (fun C1 hC1 => ?_) AllReadyH.nil)
    rw [if_pos (by kernel_rfl)]
    go_simp
    go_at_call 59
    refine (HCALL.out _ (show Rdr g A bs cp d a w.drew from ⟨HRD.out.rd, HRD.out.far, HRD.out.le⟩)).mono ?_
    intro e w1 hpost
    rcases r with ⟨c, a2⟩ | ⟨x, a2⟩
    · obtain ⟨hb1, rfl, hr1⟩ := hpost.no
      exact ⟨rfl, rfl, hr1, (HB0.out.drew).trans_ hb1 (fun k hk e => e)⟩
    obtain ⟨hb1, ⟨x', rfl, hy⟩, hr1⟩ := hpost.ok
    have hb1' : But (One g) w w1 := ((But.refl (One g) w).drew).trans_ hb1 (fun k hk e => e)
    have HB1 := Lib.hid hb1'
    have HY := Lib.hid hy
    have HR1 := Lib.hid (show Rdr g A bs cp d a2 w1 from HRD.out.next hb1' hr1 (HLE.out x a2 rfl))
    have hs0 : w1.cell? ⟨o, 8, none⟩ = some (.slice Av nv cv) := hb1'.cell_some q0 hog
    have hs1 : w1.cell? ⟨rb, 0, none⟩ = some (.pointer (some ⟨g, 0, none⟩)) := hb1'.cell_some q1 hrbg
    have HBOX1 := Lib.hid ((hb1'.block o hol hog).trans HBOX.out)
    have HRB1 := Lib.hid ((hb1'.block rb hrbl hrbg).trans HRB.out)
    have HOWN1 := Lib.hid (HOWN.out.but hb1' (fun k h1 h2 (e : k = g) => by omega))
    have HX' := Lib.hid (HX1.out _ _ _ _ hb1' HX.out)
    have hsz1 := hb1'.size
    have HTY := Lib.hid (El.typed HOWN1.out)
    have hrdl := HR1.out.lt
    have hne1 : ¬ w1.heap.size = o := by omega
    have hne2 : ¬ w1.heap.size = rb := by omega
    clear hb1 hb1' hy hr1 hpost hS
    simp only []
    refine hC1.out _ _ hs1 (fun hS => ?_)
    try simp only [putS, List.getElem_toArray, List.getElem_cons_zero, List.getElem_cons_succ]
    refine wpAnyH_ready (rs := [4]) (by kernel_rfl) (by simp) (AllReadyH.cons rfl (fun D1 hD1 => ?_) AllReadyH.nil)
    rw [if_pos (by kernel_rfl)]
    go_simp
    have hAs : But No w1 (w1.alloc (.cells #[.int .i64 x'] 3)) := (But.refl No w1).alloc _
    refine hD1.out _ _ (hAs.cell_some hs1 (fun c => c)) (fun hS => ?_)
    try simp only [putS, List.getElem_toArray, List.getElem_cons_zero, List.getElem_cons_succ]
    clear hs0 hs1 q0 q1
    refine wpAnyH_ready (rs := [5]) (by kernel_rfl) (by simp) (AllReadyH.cons rfl (fun K5 hK5 => ?_) AllReadyH.nil)
    refine inE.step1 rfl _ _ rfl rfl w0.heap.size (.slice Av nv cv) lv rfl (HOWN1.out.alloc _) w1.heap.size x' #[.int .i64 x'] rfl rfl (heap_alloc_new w1 _) (by show (lv.length + 1) * (8 + 1) ≤ _; omega) (by simp; omega) ?_
    intro g2 c2 w3 hown hgrow
    have hno : some o ≠ (Value.slice Av nv cv).ownBlock := fun e => by
      obtain ⟨_, _, cs, hc⟩ := HTY.out o e.symm
      rw [HBOX1.out] at hc
      injection hc with hc
      injection hc with _ hc
      exact hbt hc
    have hnr : some rb ≠ (Value.slice Av nv cv).ownBlock := fun e => by
      obtain ⟨_, _, cs, hc⟩ := HTY.out rb e.symm
      rw [HRB1.out] at hc
      injection hc with hc
      injection hc with _ hc
      exact absurd hc (by decide)
    have HO3 := Lib.hid ((hgrow.block o (by simp; omega) hno).trans (blkold HBOX1.out (.cells #[.int .i64 x'] 3)))
    have HR3 := Lib.hid ((hgrow.block rb (by simp; omega) hnr).trans (blkold HRB1.out (.cells #[.int .i64 x'] 3)))
    have hB3 : But (Lay g o 3 w1) w1 w3 := ((But.refl (Lay g o 3 w1) w1).alloc (.cells #[.int .i64 x'] 3)).grown hgrow (fun k hk => .inl (.inr (.inr (HTY.out k hk).2.2)))
    have hG3 : But (fun k => w0.heap.size ≤ k) w1 w3 := ((But.refl (fun k => w0.heap.size ≤ k) w1).alloc (.cells #[.int .i64 x'] 3)).grown hgrow (fun k hk => .inl (HTY.out k hk).1)
    have q0 : w3.cell? ⟨o, 8, none⟩ = some (.slice Av nv cv) := by
      rw [cell_of_row w3 o 8 _ _ _ HO3.out]
      simp [hcs]
    have q1 : w3.cell? ⟨rb, 0, none⟩ = some (.pointer (some ⟨g, 0, none⟩)) := blkcell HR3.out 0 (by simp)
    have qf : w3.frozen? ⟨o, 8, none⟩ = false := blkfree HO3.out 8
    have HOW := Lib.hid hown
    have HB3 := Lib.hid hB3
    have HG3 := Lib.hid hG3
    clear hown hgrow hno hnr hB3 hG3
    refine hK5.out _ _ q1 (fun hS => ?_)
    try simp only [putS, List.getElem_toArray, List.getElem_cons_zero, List.getElem_cons_succ]
    refine takeE 6 (some 8) rfl rfl (fun w e1 => by go_simp <;> (with_reducible rfl)) hS ?_
    simp only [putS]
    refine wpAnyH_ready (rs := [7]) (by kernel_rfl) (by simp) (AllReadyH.cons rfl (fun K7 hK7 => ?_) AllReadyH.nil)
    rw [if_pos (by kernel_rfl)]
    go_simp
    have hrbo' : ¬ o = rb := fun e => hrbo e.symm
    refine hK7.out _ _ (by go_simp) (fun hS => ?_)
    try simp only [putS, List.getElem_toArray, List.getElem_cons_zero, List.getElem_cons_succ]
    refine wpAnyH_done (by kernel_rfl) ?_ _
    go_wp2_with fail
    go_end0
    have hF1 := blkset HO3.out 8 (.slice (some ⟨g2, 0, none⟩) (lv.length + 1) c2)
    rw [setSame] at hF1
    have hL4 := HB3.out.setCell (p := ⟨o, 8, none⟩) (.inl (.inr (.inl rfl))) (.slice (some ⟨g2, 0, none⟩) (lv.length + 1) c2)
    have hG4 := HG3.out.setCell (p := ⟨o, 8, none⟩) (.inl ho) (.slice (some ⟨g2, 0, none⟩) (lv.length + 1) c2)
    refine ⟨rfl, HR1.out.moved hG4 (fun k hk h => by omega) hgw hAo, (HB0.out.trans HB1.out).trans_ hG4 (fun k hk h => by omega), blkfar HR3.out (p := ⟨o, 8, none⟩) hrbo _, _, lv ++ [x'], hF1, ?_, by rw [List.length_append, List.length_append, HLV.out]; rfl, HX2.out _ _ _ _ w.drew _ _ (HB0.out.trans HB1.out) (by show w.heap.size ≤ _; omega) (by show o < w.heap.size; omega) ⟨_, HBOX1.out⟩ HX'.out HY.out hL4⟩
    have hh := HOW.out
    rw [show lv.length + 1 = (lv ++ [x']).length from by rw [List.length_append]; rfl] at hh ⊢
    refine own_at hh fun k hk => Below.heap_setCell _ _ _ _ (fun e => ?_)
    obtain ⟨_, _, cs, hc⟩ := El.typed hh k hk
    rw [e, HO3.out] at hc
    injection hc with hc
    injection hc with _ hc
    exact hbt hc
  · skip
    rw [if_pos (by kernel_rfl)]
    go_simp
    go_at_call 59
    refine (HCALL.out _ (show Rdr g A bs cp d a w.drew from ⟨HRD.out.rd, HRD.out.far, HRD.out.le⟩)).mono ?_
    intro e w1 hpost
    rcases r with ⟨c, a2⟩ | ⟨x, a2⟩
    · obtain ⟨hb1, rfl, hr1⟩ := hpost.no
      exact ⟨rfl, rfl, hr1, (HB0.out.drew).trans_ hb1 (fun k hk e => e)⟩
    obtain ⟨hb1, ⟨x', rfl, hy⟩, hr1⟩ := hpost.ok
    have hb1' : But (One g) w w1 := ((But.refl (One g) w).drew).trans_ hb1 (fun k hk e => e)
    have HB1 := Lib.hid hb1'
    have HY := Lib.hid hy
    have HR1 := Lib.hid (show Rdr g A bs cp d a2 w1 from HRD.out.next hb1' hr1 (HLE.out x a2 rfl))
    have hs0 : w1.cell? ⟨o, 8, none⟩ = some (.slice Av nv cv) := hb1'.cell_some q0 hog
    have hs1 : w1.cell? ⟨rb, 0, none⟩ = some (.pointer (some ⟨g, 0, none⟩)) := hb1'.cell_some q1 hrbg
    have HBOX1 := Lib.hid ((hb1'.block o hol hog).trans HBOX.out)
    have HRB1 := Lib.hid ((hb1'.block rb hrbl hrbg).trans HRB.out)
    have HOWN1 := Lib.hid (HOWN.out.but hb1' (fun k h1 h2 (e : k = g) => by omega))
    have HX' := Lib.hid (HX1.out _ _ _ _ hb1' HX.out)
    have hsz1 := hb1'.size
    have HTY := Lib.hid (El.typed HOWN1.out)
    have hrdl := HR1.out.lt
    have hne1 : ¬ w1.heap.size = o := by omega
    have hne2 : ¬ w1.heap.size = rb := by omega
    clear hb1 hb1' hy hr1 hpost hS
    simp only []
    refine hA2.out _ _ hs1 (fun hS => ?_)
    try simp only [putS, List.getElem_toArray, List.getElem_cons_zero, List.getElem_cons_succ]
    refine wpAnyH_ready (rs := [1, 4]) (by kernel_rfl) (by simp) (AllReadyH.cons rfl (fun D1 hD1 => ?_) (AllReadyH.cons rfl (fun D2 hD2 => ?_) AllReadyH.nil))
    · skip
      rw [if_pos (by kernel_rfl)]
      go_simp
      refine hD1.out _ _ (hs1) (fun hS => ?_)
      try simp only [putS, List.getElem_toArray, List.getElem_cons_zero, List.getElem_cons_succ]
      refine wpAnyH_ready (rs := [4]) (by kernel_rfl) (by simp) (AllReadyH.cons rfl (fun F1 hF1 => ?_) AllReadyH.nil)
      rw [if_pos (by kernel_rfl)]
      go_simp
      have hAs : But No w1 (w1.alloc (.cells #[.int .i64 x'] 3)) := (But.refl No w1).alloc _
      refine hF1.out _ _ (hAs.cell_some hs1 (fun c => c)) (fun hS => ?_)
      try simp only [putS, List.getElem_toArray, List.getElem_cons_zero, List.getElem_cons_succ]
      clear hs0 hs1 q0 q1
      refine wpAnyH_ready (rs := [5]) (by kernel_rfl) (by simp) (AllReadyH.cons rfl (fun K5 hK5 => ?_) AllReadyH.nil)
      refine inE.step1 rfl _ _ rfl rfl w0.heap.size (.slice Av nv cv) lv rfl (HOWN1.out.alloc _) w1.heap.size x' #[.int .i64 x'] rfl rfl (heap_alloc_new w1 _) (by show (lv.length + 1) * (8 + 1) ≤ _; omega) (by simp; omega) ?_
      intro g2 c2 w3 hown hgrow
      have hno : some o ≠ (Value.slice Av nv cv).ownBlock := fun e => by
        obtain ⟨_, _, cs, hc⟩ := HTY.out o e.symm
        rw [HBOX1.out] at hc
        injection hc with hc
        injection hc with _ hc
        exact hbt hc
      have hnr : some rb ≠ (Value.slice Av nv cv).ownBlock := fun e => by
        obtain ⟨_, _, cs, hc⟩ := HTY.out rb e.symm
        rw [HRB1.out] at hc
        injection hc with hc
        injection hc with _ hc
        exact absurd hc (by decide)
      have HO3 := Lib.hid ((hgrow.block o (by simp; omega) hno).trans (blkold HBOX1.out (.cells #[.int .i64 x'] 3)))
      have HR3 := Lib.hid ((hgrow.block rb (by simp; omega) hnr).trans (blkold HRB1.out (.cells #[.int .i64 x'] 3)))
      have hB3 : But (Lay g o 3 w1) w1 w3 := ((But.refl (Lay g o 3 w1) w1).alloc (.cells #[.int .i64 x'] 3)).grown hgrow (fun k hk => .inl (.inr (.inr (HTY.out k hk).2.2)))
      have hG3 : But (fun k => w0.heap.size ≤ k) w1 w3 := ((But.refl (fun k => w0.heap.size ≤ k) w1).alloc (.cells #[.int .i64 x'] 3)).grown hgrow (fun k hk => .inl (HTY.out k hk).1)
      have q0 : w3.cell? ⟨o, 8, none⟩ = some (.slice Av nv cv) := by
        rw [cell_of_row w3 o 8 _ _ _ HO3.out]
        simp [hcs]
      have q1 : w3.cell? ⟨rb, 0, none⟩ = some (.pointer (some ⟨g, 0, none⟩)) := blkcell HR3.out 0 (by simp)
      have qf : w3.frozen? ⟨o, 8, none⟩ = false := blkfree HO3.out 8
      have HOW := Lib.hid hown
      have HB3 := Lib.hid hB3
      have HG3 := Lib.hid hG3
      clear hown hgrow hno hnr hB3 hG3
      refine hK5.out _ _ q1 (fun hS => ?_)
      try simp only [putS, List.getElem_toArray, List.getElem_cons_zero, List.getElem_cons_succ]
      refine takeE 6 (some 8) rfl rfl (fun w e1 => by go_simp <;> (with_reducible rfl)) hS ?_
      simp only [putS]
      refine wpAnyH_ready (rs := [7]) (by kernel_rfl) (by simp) (AllReadyH.cons rfl (fun K7 hK7 => ?_) AllReadyH.nil)
      rw [if_pos (by kernel_rfl)]
      go_simp
      have hrbo' : ¬ o = rb := fun e => hrbo e.symm
      refine hK7.out _ _ (by go_simp) (fun hS => ?_)
      try simp only [putS, List.getElem_toArray, List.getElem_cons_zero, List.getElem_cons_succ]
      refine wpAnyH_done (by kernel_rfl) ?_ _
      go_wp2_with fail
      go_end0
      have hF1 := blkset HO3.out 8 (.slice (some ⟨g2, 0, none⟩) (lv.length + 1) c2)
      rw [setSame] at hF1
      have hL4 := HB3.out.setCell (p := ⟨o, 8, none⟩) (.inl (.inr (.inl rfl))) (.slice (some ⟨g2, 0, none⟩) (lv.length + 1) c2)
      have hG4 := HG3.out.setCell (p := ⟨o, 8, none⟩) (.inl ho) (.slice (some ⟨g2, 0, none⟩) (lv.length + 1) c2)
      refine ⟨rfl, HR1.out.moved hG4 (fun k hk h => by omega) hgw hAo, (HB0.out.trans HB1.out).trans_ hG4 (fun k hk h => by omega), blkfar HR3.out (p := ⟨o, 8, none⟩) hrbo _, _, lv ++ [x'], hF1, ?_, by rw [List.length_append, List.length_append, HLV.out]; rfl, HX2.out _ _ _ _ w.drew _ _ (HB0.out.trans HB1.out) (by show w.heap.size ≤ _; omega) (by show o < w.heap.size; omega) ⟨_, HBOX1.out⟩ HX'.out HY.out hL4⟩
      have hh := HOW.out
      rw [show lv.length + 1 = (lv ++ [x']).length from by rw [List.length_append]; rfl] at hh ⊢
      refine own_at hh fun k hk => Below.heap_setCell _ _ _ _ (fun e => ?_)
      obtain ⟨_, _, cs, hc⟩ := El.typed hh k hk
      rw [e, HO3.out] at hc
      injection hc with hc
      injection hc with _ hc
      exact hbt hc
    · skip
      rw [if_pos (by kernel_rfl)]
      go_simp
      have hAs : But No w1 (w1.alloc (.cells #[.int .i64 x'] 3)) := (But.refl No w1).alloc _
      refine hD2.out _ _ (hAs.cell_some hs1 (fun c => c)) (fun hS => ?_)
      try simp only [putS, List.getElem_toArray, List.getElem_cons_zero, List.getElem_cons_succ]
      refine wpAnyH_ready (rs := [1]) (by kernel_rfl) (by simp) (AllReadyH.cons rfl (fun F1 hF1 => ?_) AllReadyH.nil)
      have hs0' := hAs.cell_some hs0 (fun c => c)
      rw [if_pos (by kernel_rfl)]
      go_simp
      refine hF1.out _ _ (hAs.cell_some hs1 (fun c => c)) (fun hS => ?_)
      try simp only [putS, List.getElem_toArray, List.getElem_cons_zero, List.getElem_cons_succ]
      clear hs0'
      clear hs0 hs1 q0 q1
      refine wpAnyH_ready (rs := [5]) (by kernel_rfl) (by simp) (AllReadyH.cons rfl (fun K5 hK5 => ?_) AllReadyH.nil)
      refine inE.step1 rfl _ _ rfl rfl w0.heap.size (.slice Av nv cv) lv rfl (HOWN1.out.alloc _) w1.heap.size x' #[.int .i64 x'] rfl rfl (heap_alloc_new w1 _) (by show (lv.length + 1) * (8 + 1) ≤ _; omega) (by simp; omega) ?_
      intro g2 c2 w3 hown hgrow
      have hno : some o ≠ (Value.slice Av nv cv).ownBlock := fun e => by
        obtain ⟨_, _, cs, hc⟩ := HTY.out o e.symm
        rw [HBOX1.out] at hc
        injection hc with hc
        injection hc with _ hc
        exact hbt hc
      have hnr : some rb ≠ (Value.slice Av nv cv).ownBlock := fun e => by
        obtain ⟨_, _, cs, hc⟩ := HTY.out rb e.symm
        rw [HRB1.out] at hc
        injection hc with hc
        injection hc with _ hc
        exact absurd hc (by decide)
      have HO3 := Lib.hid ((hgrow.block o (by simp; omega) hno).trans (blkold HBOX1.out (.cells #[.int .i64 x'] 3)))
      have HR3 := Lib.hid ((hgrow.block rb (by simp; omega) hnr).trans (blkold HRB1.out (.cells #[.int .i64 x'] 3)))
      have hB3 : But (Lay g o 3 w1) w1 w3 := ((But.refl (Lay g o 3 w1) w1).alloc (.cells #[.int .i64 x'] 3)).grown hgrow (fun k hk => .inl (.inr (.inr (HTY.out k hk).2.2)))
      have hG3 : But (fun k => w0.heap.size ≤ k) w1 w3 := ((But.refl (fun k => w0.heap.size ≤ k) w1).alloc (.cells #[.int .i64 x'] 3)).grown hgrow (fun k hk => .inl (HTY.out k hk).1)
      have q0 : w3.cell? ⟨o, 8, none⟩ = some (.slice Av nv cv) := by
        rw [cell_of_row w3 o 8 _ _ _ HO3.out]
        simp [hcs]
      have q1 : w3.cell? ⟨rb, 0, none⟩ = some (.pointer (some ⟨g, 0, none⟩)) := blkcell HR3.out 0 (by simp)
      have qf : w3.frozen? ⟨o, 8, none⟩ = false := blkfree HO3.out 8
      have HOW := Lib.hid hown
      have HB3 := Lib.hid hB3
      have HG3 := Lib.hid hG3
      clear hown hgrow hno hnr hB3 hG3
      refine hK5.out _ _ q1 (fun hS => ?_)
      try simp only [putS, List.getElem_toArray, List.getElem_cons_zero, List.getElem_cons_succ]
      refine takeE 6 (some 8) rfl rfl (fun w e1 => by go_simp <;> (with_reducible rfl)) hS ?_
      simp only [putS]
      refine wpAnyH_ready (rs := [7]) (by kernel_rfl) (by simp) (AllReadyH.cons rfl (fun K7 hK7 => ?_) AllReadyH.nil)
      rw [if_pos (by kernel_rfl)]
      go_simp
      have hrbo' : ¬ o = rb := fun e => hrbo e.symm
      refine hK7.out _ _ (by go_simp) (fun hS => ?_)
      try simp only [putS, List.getElem_toArray, List.getElem_cons_zero, List.getElem_cons_succ]
      refine wpAnyH_done (by kernel_rfl) ?_ _
      go_wp2_with fail
      go_end0
      have hF1 := blkset HO3.out 8 (.slice (some ⟨g2, 0, none⟩) (lv.length + 1) c2)
      rw [setSame] at hF1
      have hL4 := HB3.out.setCell (p := ⟨o, 8, none⟩) (.inl (.inr (.inl rfl))) (.slice (some ⟨g2, 0, none⟩) (lv.length + 1) c2)
      have hG4 := HG3.out.setCell (p := ⟨o, 8, none⟩) (.inl ho) (.slice (some ⟨g2, 0, none⟩) (lv.length + 1) c2)
      refine ⟨rfl, HR1.out.moved hG4 (fun k hk h => by omega) hgw hAo, (HB0.out.trans HB1.out).trans_ hG4 (fun k hk h => by omega), blkfar HR3.out (p := ⟨o, 8, none⟩) hrbo _, _, lv ++ [x'], hF1, ?_, by rw [List.length_append, List.length_append, HLV.out]; rfl, HX2.out _ _ _ _ w.drew _ _ (HB0.out.trans HB1.out) (by show w.heap.size ≤ _; omega) (by show o < w.heap.size; omega) ⟨_, HBOX1.out⟩ HX'.out HY.out hL4⟩
      have hh := HOW.out
      rw [show lv.length + 1 = (lv ++ [x']).length from by rw [List.length_append]; rfl] at hh ⊢
      refine own_at hh fun k hk => Below.heap_setCell _ _ _ _ (fun e => ?_)
      obtain ⟨_, _, cs, hc⟩ := El.typed hh k hk
      rw [e, HO3.out] at hc
      injection hc with hc
      injection hc with _ hc
      exact hbt hc

set_option maxHeartbeats 4000000 in
theorem planText {σ : Type} {g : Nat} {A : Option Addr} {bs : List Int} {cp : Nat} {d : Int} {w0 : World} {rb o : Nat} {cs0 : Array Value} {X : List σ → List ByteArray → World → Prop} {a : Nat} {l : List σ} {w : World} (f : Nat → RR σ) (Y : World → σ → ByteArray → World → Prop)
    (h : BoxInv g A bs cp d w0 rb o 25 cs0 0 sgE X a l w) (hl : l.length < 268435456) (hcs : 0 < cs0.size) (ho : w0.heap.size ≤ o) (hgw : g < w0.heap.size) (hAo : ∀ ad, A = some ad → ad.block < w0.heap.size) (hbt : 25 ≠ 9)
    (hcall : ∀ W, Rdr g A bs cp d a W → Calls Try.prog 48 #[.pointer (some ⟨g, 0, none⟩)] W (RPost g A bs cp d W (One g) (f a) fun x e W' => ∃ x', e = .returned (.string x') ∧ Y W x x' W'))
    (hle : ∀ x a', f a = .inr (x, a') → a' ≤ bs.length)
    (hX1 : ∀ ls lv W W', But (One g) W W' → X ls lv W → X ls lv W')
    (hX2 : ∀ ls lv x x' W0 W W', But (One g) w0 W → W0.heap.size ≤ W.heap.size → o < W0.heap.size → (∃ cs, W.heap[o]? = some (.cells cs 25 (0, 0))) → X ls lv W → Y W0 x x' W → But (Lay g o 9 W) W W' → X (ls ++ [x]) (lv ++ [x']) W') :
    Calls Try.prog 47 #[.pointer (some ⟨o, 0, none⟩), .pointer (some ⟨rb, 0, none⟩)] w (OnePost (BadR g A bs cp d w0) (BoxInv g A bs cp d w0 rb o 25 cs0 0 sgE X) l (f a)) := by
  obtain ⟨v, lv, hbox, hown, hlv, hx⟩ := h.box
  have hrd := h.rdr
  have hbt0 := h.but
  have hog : o ≠ g := by omega
  have hrb := h.rbx
  have q0 : w.cell? ⟨o, 0, none⟩ = some v := by
    rw [cell_of_row w o 0 _ _ _ hbox]
    simp [hcs]
  have q1 : w.cell? ⟨rb, 0, none⟩ = some (.pointer (some ⟨g, 0, none⟩)) := blkcell hrb 0 (by simp)
  have HBOX := Lib.hid hbox
  have HOWN := Lib.hid hown
  have HX := Lib.hid hx
  have HRD := Lib.hid hrd
  have HB0 := Lib.hid hbt0
  have HRB := Lib.hid hrb
  have hlvl : lv.length < 268435456 := by omega
  have HLV := Lib.hid hlv
  have hsz0 := hbt0.size
  have hol := lt_of_block hbox
  have hrbl := lt_of_block hrb
  have hrbo : rb ≠ o := by
    intro e
    rw [e, hbox] at hrb
    injection hrb with hrb
    injection hrb with _ h2
    exact absurd h2 (by decide)
  have hrbg : rb ≠ g := by
    intro e
    have h1 := hrd.rd
    unfold RdIn at h1
    rw [← e, hrb] at h1
    injection h1 with h1
    injection h1 with _ h2
    exact absurd h2 (by decide)
  have HCALL := Lib.hid hcall
  have HX1 := Lib.hid hX1
  have HX2 := Lib.hid hX2
  obtain ⟨r, hr⟩ : ∃ r, f a = r := ⟨_, rfl⟩
  have HLE := Lib.hid hle
  rw [hr] at HCALL HLE ⊢
  obtain ⟨Av, nv, cv, hv⟩ : ∃ A n c, v = Value.slice A n c := (by obtain ⟨A, c, h⟩ := hown.slice; exact ⟨A, _, c, h⟩)
  subst hv
  clear h hbox hown hx hrd hbt0 hrb hcall hX1 hX2 hlv hr hle
  go_enter Try.func47, Try.ntmps47
  go_wp2_with fail
  refine wp_region_held_drew (S := fun w' => w'.cell? ⟨rb, 0, none⟩ = some (.pointer (some ⟨g, 0, none⟩))) (by kernel_rfl) q1 (fun hS => ?_)
  refine takeE 0 (some 2) rfl rfl (fun w e1 => by go_simp <;> (with_reducible rfl)) hS ?_
  simp only [putS]
  refine takeE 2 (some 4) rfl rfl (fun w e1 => by go_simp <;> (with_reducible rfl)) hS ?_
  simp only [putS]
  refine wpAnyH_ready (rs := [1, 3]) (by kernel_rfl) (by simp) (AllReadyH.cons rfl (fun A1 hA1 => ?_) (AllReadyH.cons rfl (fun A2 hA2 => ?_) AllReadyH.nil))
  · skip
    rw [if_pos (by kernel_rfl)]
    go_simp
    refine hA1.out _ _ (q1) (fun hS => ?_)
    try simp only [putS, List.getElem_toArray, List.getElem_cons_zero, List.getElem_cons_succ]
    refine wpAnyH_ready (rs := [3]) (by kernel_rfl) (by simp) (AllReadyH.cons rfl (fun C1 hC1 => ?_) AllReadyH.nil)
    rw [if_pos (by kernel_rfl)]
    go_simp
    go_at_call 48
    refine (HCALL.out _ (show Rdr g A bs cp d a w.drew from ⟨HRD.out.rd, HRD.out.far, HRD.out.le⟩)).mono ?_
    intro e w1 hpost
    rcases r with ⟨c, a2⟩ | ⟨x, a2⟩
    · obtain ⟨hb1, rfl, hr1⟩ := hpost.no
      exact ⟨rfl, rfl, hr1, (HB0.out.drew).trans_ hb1 (fun k hk e => e)⟩
    obtain ⟨hb1, ⟨x', rfl, hy⟩, hr1⟩ := hpost.ok
    have hb1' : But (One g) w w1 := ((But.refl (One g) w).drew).trans_ hb1 (fun k hk e => e)
    have HB1 := Lib.hid hb1'
    have HY := Lib.hid hy
    have HR1 := Lib.hid (show Rdr g A bs cp d a2 w1 from HRD.out.next hb1' hr1 (HLE.out x a2 rfl))
    have hs0 : w1.cell? ⟨o, 0, none⟩ = some (.slice Av nv cv) := hb1'.cell_some q0 hog
    have hs1 : w1.cell? ⟨rb, 0, none⟩ = some (.pointer (some ⟨g, 0, none⟩)) := hb1'.cell_some q1 hrbg
    have HBOX1 := Lib.hid ((hb1'.block o hol hog).trans HBOX.out)
    have HRB1 := Lib.hid ((hb1'.block rb hrbl hrbg).trans HRB.out)
    have HOWN1 := Lib.hid (HOWN.out.but hb1' (fun k h1 h2 (e : k = g) => by omega))
    have HX' := Lib.hid (HX1.out _ _ _ _ hb1' HX.out)
    have hsz1 := hb1'.size
    have HTY := Lib.hid (El.typed HOWN1.out)
    have hrdl := HR1.out.lt
    have hne1 : ¬ w1.heap.size = o := by omega
    have hne2 : ¬ w1.heap.size = rb := by omega
    clear hb1 hb1' hy hr1 hpost hS
    simp only []
    refine hC1.out _ _ hs1 (fun hS => ?_)
    try simp only [putS, List.getElem_toArray, List.getElem_cons_zero, List.getElem_cons_succ]
    refine wpAnyH_ready (rs := [4]) (by kernel_rfl) (by simp) (AllReadyH.cons rfl (fun D1 hD1 => ?_) AllReadyH.nil)
    rw [if_pos (by kernel_rfl)]
    go_simp
    have hAs : But No w1 (w1.alloc (.cells #[.string x'] 9)) := (But.refl No w1).alloc _
    refine hD1.out _ _ (hAs.cell_some hs1 (fun c => c)) (fun hS => ?_)
    try simp only [putS, List.getElem_toArray, List.getElem_cons_zero, List.getElem_cons_succ]
    clear hs0 hs1 q0 q1
    refine wpAnyH_ready (rs := [5]) (by kernel_rfl) (by simp) (AllReadyH.cons rfl (fun K5 hK5 => ?_) AllReadyH.nil)
    refine sgE.step1 rfl _ _ rfl rfl w0.heap.size (.slice Av nv cv) lv rfl (HOWN1.out.alloc _) w1.heap.size x' #[.string x'] rfl rfl (heap_alloc_new w1 _) (by show (lv.length + 1) * (16 + 1) ≤ _; omega) (by simp; omega) ?_
    intro g2 c2 w3 hown hgrow
    have hno : some o ≠ (Value.slice Av nv cv).ownBlock := fun e => by
      obtain ⟨_, _, cs, hc⟩ := HTY.out o e.symm
      rw [HBOX1.out] at hc
      injection hc with hc
      injection hc with _ hc
      exact hbt hc
    have hnr : some rb ≠ (Value.slice Av nv cv).ownBlock := fun e => by
      obtain ⟨_, _, cs, hc⟩ := HTY.out rb e.symm
      rw [HRB1.out] at hc
      injection hc with hc
      injection hc with _ hc
      exact absurd hc (by decide)
    have HO3 := Lib.hid ((hgrow.block o (by simp; omega) hno).trans (blkold HBOX1.out (.cells #[.string x'] 9)))
    have HR3 := Lib.hid ((hgrow.block rb (by simp; omega) hnr).trans (blkold HRB1.out (.cells #[.string x'] 9)))
    have hB3 : But (Lay g o 9 w1) w1 w3 := ((But.refl (Lay g o 9 w1) w1).alloc (.cells #[.string x'] 9)).grown hgrow (fun k hk => .inl (.inr (.inr (HTY.out k hk).2.2)))
    have hG3 : But (fun k => w0.heap.size ≤ k) w1 w3 := ((But.refl (fun k => w0.heap.size ≤ k) w1).alloc (.cells #[.string x'] 9)).grown hgrow (fun k hk => .inl (HTY.out k hk).1)
    have q0 : w3.cell? ⟨o, 0, none⟩ = some (.slice Av nv cv) := by
      rw [cell_of_row w3 o 0 _ _ _ HO3.out]
      simp [hcs]
    have q1 : w3.cell? ⟨rb, 0, none⟩ = some (.pointer (some ⟨g, 0, none⟩)) := blkcell HR3.out 0 (by simp)
    have qf : w3.frozen? ⟨o, 0, none⟩ = false := blkfree HO3.out 0
    have HOW := Lib.hid hown
    have HB3 := Lib.hid hB3
    have HG3 := Lib.hid hG3
    clear hown hgrow hno hnr hB3 hG3
    refine hK5.out _ _ q1 (fun hS => ?_)
    try simp only [putS, List.getElem_toArray, List.getElem_cons_zero, List.getElem_cons_succ]
    refine takeE 6 (some 8) rfl rfl (fun w e1 => by go_simp <;> (with_reducible rfl)) hS ?_
    simp only [putS]
    refine wpAnyH_ready (rs := [7]) (by kernel_rfl) (by simp) (AllReadyH.cons rfl (fun K7 hK7 => ?_) AllReadyH.nil)
    rw [if_pos (by kernel_rfl)]
    go_simp
    have hrbo' : ¬ o = rb := fun e => hrbo e.symm
    refine hK7.out _ _ (by go_simp) (fun hS => ?_)
    try simp only [putS, List.getElem_toArray, List.getElem_cons_zero, List.getElem_cons_succ]
    refine wpAnyH_done (by kernel_rfl) ?_ _
    go_wp2_with fail
    go_end0
    have hF1 := blkset HO3.out 0 (.slice (some ⟨g2, 0, none⟩) (lv.length + 1) c2)
    rw [setSame] at hF1
    have hL4 := HB3.out.setCell (p := ⟨o, 0, none⟩) (.inl (.inr (.inl rfl))) (.slice (some ⟨g2, 0, none⟩) (lv.length + 1) c2)
    have hG4 := HG3.out.setCell (p := ⟨o, 0, none⟩) (.inl ho) (.slice (some ⟨g2, 0, none⟩) (lv.length + 1) c2)
    refine ⟨rfl, HR1.out.moved hG4 (fun k hk h => by omega) hgw hAo, (HB0.out.trans HB1.out).trans_ hG4 (fun k hk h => by omega), blkfar HR3.out (p := ⟨o, 0, none⟩) hrbo _, _, lv ++ [x'], hF1, ?_, by rw [List.length_append, List.length_append, HLV.out]; rfl, HX2.out _ _ _ _ w.drew _ _ (HB0.out.trans HB1.out) (by show w.heap.size ≤ _; omega) (by show o < w.heap.size; omega) ⟨_, HBOX1.out⟩ HX'.out HY.out hL4⟩
    have hh := HOW.out
    rw [show lv.length + 1 = (lv ++ [x']).length from by rw [List.length_append]; rfl] at hh ⊢
    refine own_at hh fun k hk => Below.heap_setCell _ _ _ _ (fun e => ?_)
    obtain ⟨_, _, cs, hc⟩ := El.typed hh k hk
    rw [e, HO3.out] at hc
    injection hc with hc
    injection hc with _ hc
    exact hbt hc
  · skip
    rw [if_pos (by kernel_rfl)]
    go_simp
    go_at_call 48
    refine (HCALL.out _ (show Rdr g A bs cp d a w.drew from ⟨HRD.out.rd, HRD.out.far, HRD.out.le⟩)).mono ?_
    intro e w1 hpost
    rcases r with ⟨c, a2⟩ | ⟨x, a2⟩
    · obtain ⟨hb1, rfl, hr1⟩ := hpost.no
      exact ⟨rfl, rfl, hr1, (HB0.out.drew).trans_ hb1 (fun k hk e => e)⟩
    obtain ⟨hb1, ⟨x', rfl, hy⟩, hr1⟩ := hpost.ok
    have hb1' : But (One g) w w1 := ((But.refl (One g) w).drew).trans_ hb1 (fun k hk e => e)
    have HB1 := Lib.hid hb1'
    have HY := Lib.hid hy
    have HR1 := Lib.hid (show Rdr g A bs cp d a2 w1 from HRD.out.next hb1' hr1 (HLE.out x a2 rfl))
    have hs0 : w1.cell? ⟨o, 0, none⟩ = some (.slice Av nv cv) := hb1'.cell_some q0 hog
    have hs1 : w1.cell? ⟨rb, 0, none⟩ = some (.pointer (some ⟨g, 0, none⟩)) := hb1'.cell_some q1 hrbg
    have HBOX1 := Lib.hid ((hb1'.block o hol hog).trans HBOX.out)
    have HRB1 := Lib.hid ((hb1'.block rb hrbl hrbg).trans HRB.out)
    have HOWN1 := Lib.hid (HOWN.out.but hb1' (fun k h1 h2 (e : k = g) => by omega))
    have HX' := Lib.hid (HX1.out _ _ _ _ hb1' HX.out)
    have hsz1 := hb1'.size
    have HTY := Lib.hid (El.typed HOWN1.out)
    have hrdl := HR1.out.lt
    have hne1 : ¬ w1.heap.size = o := by omega
    have hne2 : ¬ w1.heap.size = rb := by omega
    clear hb1 hb1' hy hr1 hpost hS
    simp only []
    refine hA2.out _ _ hs1 (fun hS => ?_)
    try simp only [putS, List.getElem_toArray, List.getElem_cons_zero, List.getElem_cons_succ]
    refine wpAnyH_ready (rs := [1, 4]) (by kernel_rfl) (by simp) (AllReadyH.cons rfl (fun D1 hD1 => ?_) (AllReadyH.cons rfl (fun D2 hD2 => ?_) AllReadyH.nil))
    · skip
      rw [if_pos (by kernel_rfl)]
      go_simp
      refine hD1.out _ _ (hs1) (fun hS => ?_)
      try simp only [putS, List.getElem_toArray, List.getElem_cons_zero, List.getElem_cons_succ]
      refine wpAnyH_ready (rs := [4]) (by kernel_rfl) (by simp) (AllReadyH.cons rfl (fun F1 hF1 => ?_) AllReadyH.nil)
      rw [if_pos (by kernel_rfl)]
      go_simp
      have hAs : But No w1 (w1.alloc (.cells #[.string x'] 9)) := (But.refl No w1).alloc _
      refine hF1.out _ _ (hAs.cell_some hs1 (fun c => c)) (fun hS => ?_)
      try simp only [putS, List.getElem_toArray, List.getElem_cons_zero, List.getElem_cons_succ]
      clear hs0 hs1 q0 q1
      refine wpAnyH_ready (rs := [5]) (by kernel_rfl) (by simp) (AllReadyH.cons rfl (fun K5 hK5 => ?_) AllReadyH.nil)
      refine sgE.step1 rfl _ _ rfl rfl w0.heap.size (.slice Av nv cv) lv rfl (HOWN1.out.alloc _) w1.heap.size x' #[.string x'] rfl rfl (heap_alloc_new w1 _) (by show (lv.length + 1) * (16 + 1) ≤ _; omega) (by simp; omega) ?_
      intro g2 c2 w3 hown hgrow
      have hno : some o ≠ (Value.slice Av nv cv).ownBlock := fun e => by
        obtain ⟨_, _, cs, hc⟩ := HTY.out o e.symm
        rw [HBOX1.out] at hc
        injection hc with hc
        injection hc with _ hc
        exact hbt hc
      have hnr : some rb ≠ (Value.slice Av nv cv).ownBlock := fun e => by
        obtain ⟨_, _, cs, hc⟩ := HTY.out rb e.symm
        rw [HRB1.out] at hc
        injection hc with hc
        injection hc with _ hc
        exact absurd hc (by decide)
      have HO3 := Lib.hid ((hgrow.block o (by simp; omega) hno).trans (blkold HBOX1.out (.cells #[.string x'] 9)))
      have HR3 := Lib.hid ((hgrow.block rb (by simp; omega) hnr).trans (blkold HRB1.out (.cells #[.string x'] 9)))
      have hB3 : But (Lay g o 9 w1) w1 w3 := ((But.refl (Lay g o 9 w1) w1).alloc (.cells #[.string x'] 9)).grown hgrow (fun k hk => .inl (.inr (.inr (HTY.out k hk).2.2)))
      have hG3 : But (fun k => w0.heap.size ≤ k) w1 w3 := ((But.refl (fun k => w0.heap.size ≤ k) w1).alloc (.cells #[.string x'] 9)).grown hgrow (fun k hk => .inl (HTY.out k hk).1)
      have q0 : w3.cell? ⟨o, 0, none⟩ = some (.slice Av nv cv) := by
        rw [cell_of_row w3 o 0 _ _ _ HO3.out]
        simp [hcs]
      have q1 : w3.cell? ⟨rb, 0, none⟩ = some (.pointer (some ⟨g, 0, none⟩)) := blkcell HR3.out 0 (by simp)
      have qf : w3.frozen? ⟨o, 0, none⟩ = false := blkfree HO3.out 0
      have HOW := Lib.hid hown
      have HB3 := Lib.hid hB3
      have HG3 := Lib.hid hG3
      clear hown hgrow hno hnr hB3 hG3
      refine hK5.out _ _ q1 (fun hS => ?_)
      try simp only [putS, List.getElem_toArray, List.getElem_cons_zero, List.getElem_cons_succ]
      refine takeE 6 (some 8) rfl rfl (fun w e1 => by go_simp <;> (with_reducible rfl)) hS ?_
      simp only [putS]
      refine wpAnyH_ready (rs := [7]) (by kernel_rfl) (by simp) (AllReadyH.cons rfl (fun K7 hK7 => ?_) AllReadyH.nil)
      rw [if_pos (by kernel_rfl)]
      go_simp
      have hrbo' : ¬ o = rb := fun e => hrbo e.symm
      refine hK7.out _ _ (by go_simp) (fun hS => ?_)
      try simp only [putS, List.getElem_toArray, List.getElem_cons_zero, List.getElem_cons_succ]
      refine wpAnyH_done (by kernel_rfl) ?_ _
      go_wp2_with fail
      go_end0
      have hF1 := blkset HO3.out 0 (.slice (some ⟨g2, 0, none⟩) (lv.length + 1) c2)
      rw [setSame] at hF1
      have hL4 := HB3.out.setCell (p := ⟨o, 0, none⟩) (.inl (.inr (.inl rfl))) (.slice (some ⟨g2, 0, none⟩) (lv.length + 1) c2)
      have hG4 := HG3.out.setCell (p := ⟨o, 0, none⟩) (.inl ho) (.slice (some ⟨g2, 0, none⟩) (lv.length + 1) c2)
      refine ⟨rfl, HR1.out.moved hG4 (fun k hk h => by omega) hgw hAo, (HB0.out.trans HB1.out).trans_ hG4 (fun k hk h => by omega), blkfar HR3.out (p := ⟨o, 0, none⟩) hrbo _, _, lv ++ [x'], hF1, ?_, by rw [List.length_append, List.length_append, HLV.out]; rfl, HX2.out _ _ _ _ w.drew _ _ (HB0.out.trans HB1.out) (by show w.heap.size ≤ _; omega) (by show o < w.heap.size; omega) ⟨_, HBOX1.out⟩ HX'.out HY.out hL4⟩
      have hh := HOW.out
      rw [show lv.length + 1 = (lv ++ [x']).length from by rw [List.length_append]; rfl] at hh ⊢
      refine own_at hh fun k hk => Below.heap_setCell _ _ _ _ (fun e => ?_)
      obtain ⟨_, _, cs, hc⟩ := El.typed hh k hk
      rw [e, HO3.out] at hc
      injection hc with hc
      injection hc with _ hc
      exact hbt hc
    · skip
      rw [if_pos (by kernel_rfl)]
      go_simp
      have hAs : But No w1 (w1.alloc (.cells #[.string x'] 9)) := (But.refl No w1).alloc _
      refine hD2.out _ _ (hAs.cell_some hs1 (fun c => c)) (fun hS => ?_)
      try simp only [putS, List.getElem_toArray, List.getElem_cons_zero, List.getElem_cons_succ]
      refine wpAnyH_ready (rs := [1]) (by kernel_rfl) (by simp) (AllReadyH.cons rfl (fun F1 hF1 => ?_) AllReadyH.nil)
      have hs0' := hAs.cell_some hs0 (fun c => c)
      rw [if_pos (by kernel_rfl)]
      go_simp
      refine hF1.out _ _ (hAs.cell_some hs1 (fun c => c)) (fun hS => ?_)
      try simp only [putS, List.getElem_toArray, List.getElem_cons_zero, List.getElem_cons_succ]
      clear hs0'
      clear hs0 hs1 q0 q1
      refine wpAnyH_ready (rs := [5]) (by kernel_rfl) (by simp) (AllReadyH.cons rfl (fun K5 hK5 => ?_) AllReadyH.nil)
      refine sgE.step1 rfl _ _ rfl rfl w0.heap.size (.slice Av nv cv) lv rfl (HOWN1.out.alloc _) w1.heap.size x' #[.string x'] rfl rfl (heap_alloc_new w1 _) (by show (lv.length + 1) * (16 + 1) ≤ _; omega) (by simp; omega) ?_
      intro g2 c2 w3 hown hgrow
      have hno : some o ≠ (Value.slice Av nv cv).ownBlock := fun e => by
        obtain ⟨_, _, cs, hc⟩ := HTY.out o e.symm
        rw [HBOX1.out] at hc
        injection hc with hc
        injection hc with _ hc
        exact hbt hc
      have hnr : some rb ≠ (Value.slice Av nv cv).ownBlock := fun e => by
        obtain ⟨_, _, cs, hc⟩ := HTY.out rb e.symm
        rw [HRB1.out] at hc
        injection hc with hc
        injection hc with _ hc
        exact absurd hc (by decide)
      have HO3 := Lib.hid ((hgrow.block o (by simp; omega) hno).trans (blkold HBOX1.out (.cells #[.string x'] 9)))
      have HR3 := Lib.hid ((hgrow.block rb (by simp; omega) hnr).trans (blkold HRB1.out (.cells #[.string x'] 9)))
      have hB3 : But (Lay g o 9 w1) w1 w3 := ((But.refl (Lay g o 9 w1) w1).alloc (.cells #[.string x'] 9)).grown hgrow (fun k hk => .inl (.inr (.inr (HTY.out k hk).2.2)))
      have hG3 : But (fun k => w0.heap.size ≤ k) w1 w3 := ((But.refl (fun k => w0.heap.size ≤ k) w1).alloc (.cells #[.string x'] 9)).grown hgrow (fun k hk => .inl (HTY.out k hk).1)
      have q0 : w3.cell? ⟨o, 0, none⟩ = some (.slice Av nv cv) := by
        rw [cell_of_row w3 o 0 _ _ _ HO3.out]
        simp [hcs]
      have q1 : w3.cell? ⟨rb, 0, none⟩ = some (.pointer (some ⟨g, 0, none⟩)) := blkcell HR3.out 0 (by simp)
      have qf : w3.frozen? ⟨o, 0, none⟩ = false := blkfree HO3.out 0
      have HOW := Lib.hid hown
      have HB3 := Lib.hid hB3
      have HG3 := Lib.hid hG3
      clear hown hgrow hno hnr hB3 hG3
      refine hK5.out _ _ q1 (fun hS => ?_)
      try simp only [putS, List.getElem_toArray, List.getElem_cons_zero, List.getElem_cons_succ]
      refine takeE 6 (some 8) rfl rfl (fun w e1 => by go_simp <;> (with_reducible rfl)) hS ?_
      simp only [putS]
      refine wpAnyH_ready (rs := [7]) (by kernel_rfl) (by simp) (AllReadyH.cons rfl (fun K7 hK7 => ?_) AllReadyH.nil)
      rw [if_pos (by kernel_rfl)]
      go_simp
      have hrbo' : ¬ o = rb := fun e => hrbo e.symm
      refine hK7.out _ _ (by go_simp) (fun hS => ?_)
      try simp only [putS, List.getElem_toArray, List.getElem_cons_zero, List.getElem_cons_succ]
      refine wpAnyH_done (by kernel_rfl) ?_ _
      go_wp2_with fail
      go_end0
      have hF1 := blkset HO3.out 0 (.slice (some ⟨g2, 0, none⟩) (lv.length + 1) c2)
      rw [setSame] at hF1
      have hL4 := HB3.out.setCell (p := ⟨o, 0, none⟩) (.inl (.inr (.inl rfl))) (.slice (some ⟨g2, 0, none⟩) (lv.length + 1) c2)
      have hG4 := HG3.out.setCell (p := ⟨o, 0, none⟩) (.inl ho) (.slice (some ⟨g2, 0, none⟩) (lv.length + 1) c2)
      refine ⟨rfl, HR1.out.moved hG4 (fun k hk h => by omega) hgw hAo, (HB0.out.trans HB1.out).trans_ hG4 (fun k hk h => by omega), blkfar HR3.out (p := ⟨o, 0, none⟩) hrbo _, _, lv ++ [x'], hF1, ?_, by rw [List.length_append, List.length_append, HLV.out]; rfl, HX2.out _ _ _ _ w.drew _ _ (HB0.out.trans HB1.out) (by show w.heap.size ≤ _; omega) (by show o < w.heap.size; omega) ⟨_, HBOX1.out⟩ HX'.out HY.out hL4⟩
      have hh := HOW.out
      rw [show lv.length + 1 = (lv ++ [x']).length from by rw [List.length_append]; rfl] at hh ⊢
      refine own_at hh fun k hk => Below.heap_setCell _ _ _ _ (fun e => ?_)
      obtain ⟨_, _, cs, hc⟩ := El.typed hh k hk
      rw [e, HO3.out] at hc
      injection hc with hc
      injection hc with _ hc
      exact hbt hc

set_option maxHeartbeats 4000000 in
theorem jobRule {σ : Type} {g : Nat} {A : Option Addr} {bs : List Int} {cp : Nat} {d : Int} {w0 : World} {rb o : Nat} {cs0 : Array Value} {X : List σ → List ((Option Addr × Nat × Nat) × Int) → World → Prop} {a : Nat} {l : List σ} {w : World} (f : Nat → RR σ) (Y : World → σ → ((Option Addr × Nat × Nat) × Int) → World → Prop)
    (h : BoxInv g A bs cp d w0 rb o 52 cs0 6 rlE X a l w) (hl : l.length < 268435456) (hcs : 6 < cs0.size) (ho : w0.heap.size ≤ o) (hgw : g < w0.heap.size) (hAo : ∀ ad, A = some ad → ad.block < w0.heap.size) (hbt : 52 ≠ 58)
    (hcall : ∀ W, Rdr g A bs cp d a W → Calls Try.prog 61 #[.pointer (some ⟨g, 0, none⟩)] W (RPost g A bs cp d W (One g) (f a) fun x e W' => ∃ x', e = .returned (.agg #[.slice x'.1.1 x'.1.2.1 x'.1.2.2, .int .i64 x'.2]) ∧ Y W x x' W'))
    (hle : ∀ x a', f a = .inr (x, a') → a' ≤ bs.length)
    (hX1 : ∀ ls lv W W', But (One g) W W' → X ls lv W → X ls lv W')
    (hX2 : ∀ ls lv x x' W0 W W', But (One g) w0 W → W0.heap.size ≤ W.heap.size → o < W0.heap.size → (∃ cs, W.heap[o]? = some (.cells cs 52 (0, 0))) → X ls lv W → Y W0 x x' W → But (Lay g o 58 W) W W' → X (ls ++ [x]) (lv ++ [x']) W') :
    Calls Try.prog 60 #[.pointer (some ⟨o, 0, none⟩), .pointer (some ⟨rb, 0, none⟩)] w (OnePost (BadR g A bs cp d w0) (BoxInv g A bs cp d w0 rb o 52 cs0 6 rlE X) l (f a)) := by
  obtain ⟨v, lv, hbox, hown, hlv, hx⟩ := h.box
  have hrd := h.rdr
  have hbt0 := h.but
  have hog : o ≠ g := by omega
  have hrb := h.rbx
  have q0 : w.cell? ⟨o, 6, none⟩ = some v := by
    rw [cell_of_row w o 6 _ _ _ hbox]
    simp [hcs]
  have q1 : w.cell? ⟨rb, 0, none⟩ = some (.pointer (some ⟨g, 0, none⟩)) := blkcell hrb 0 (by simp)
  have HBOX := Lib.hid hbox
  have HOWN := Lib.hid hown
  have HX := Lib.hid hx
  have HRD := Lib.hid hrd
  have HB0 := Lib.hid hbt0
  have HRB := Lib.hid hrb
  have hlvl : lv.length < 268435456 := by omega
  have HLV := Lib.hid hlv
  have hsz0 := hbt0.size
  have hol := lt_of_block hbox
  have hrbl := lt_of_block hrb
  have hrbo : rb ≠ o := by
    intro e
    rw [e, hbox] at hrb
    injection hrb with hrb
    injection hrb with _ h2
    exact absurd h2 (by decide)
  have hrbg : rb ≠ g := by
    intro e
    have h1 := hrd.rd
    unfold RdIn at h1
    rw [← e, hrb] at h1
    injection h1 with h1
    injection h1 with _ h2
    exact absurd h2 (by decide)
  have HCALL := Lib.hid hcall
  have HX1 := Lib.hid hX1
  have HX2 := Lib.hid hX2
  obtain ⟨r, hr⟩ : ∃ r, f a = r := ⟨_, rfl⟩
  have HLE := Lib.hid hle
  rw [hr] at HCALL HLE ⊢
  obtain ⟨Av, nv, cv, hv⟩ : ∃ A n c, v = Value.slice A n c := (by obtain ⟨A, c, h⟩ := hown.slice; exact ⟨A, _, c, h⟩)
  subst hv
  clear h hbox hown hx hrd hbt0 hrb hcall hX1 hX2 hlv hr hle
  go_enter Try.func60, Try.ntmps60
  go_wp2_with fail
  refine wp_region_held_drew (S := fun w' => w'.cell? ⟨rb, 0, none⟩ = some (.pointer (some ⟨g, 0, none⟩))) (by kernel_rfl) q1 (fun hS => ?_)
  refine takeE 0 (some 2) rfl rfl (fun w e1 => by go_simp <;> (with_reducible rfl)) hS ?_
  simp only [putS]
  refine takeE 2 (some 4) rfl rfl (fun w e1 => by go_simp <;> (with_reducible rfl)) hS ?_
  simp only [putS]
  refine wpAnyH_ready (rs := [1, 3]) (by kernel_rfl) (by simp) (AllReadyH.cons rfl (fun A1 hA1 => ?_) (AllReadyH.cons rfl (fun A2 hA2 => ?_) AllReadyH.nil))
  · skip
    rw [if_pos (by kernel_rfl)]
    go_simp
    refine hA1.out _ _ (q1) (fun hS => ?_)
    try simp only [putS, List.getElem_toArray, List.getElem_cons_zero, List.getElem_cons_succ]
    refine wpAnyH_ready (rs := [3]) (by kernel_rfl) (by simp) (AllReadyH.cons rfl (fun C1 hC1 => ?_) AllReadyH.nil)
    rw [if_pos (by kernel_rfl)]
    go_simp
    go_at_call 61
    refine (HCALL.out _ (show Rdr g A bs cp d a w.drew from ⟨HRD.out.rd, HRD.out.far, HRD.out.le⟩)).mono ?_
    intro e w1 hpost
    rcases r with ⟨c, a2⟩ | ⟨x, a2⟩
    · obtain ⟨hb1, rfl, hr1⟩ := hpost.no
      exact ⟨rfl, rfl, hr1, (HB0.out.drew).trans_ hb1 (fun k hk e => e)⟩
    obtain ⟨hb1, ⟨x', rfl, hy⟩, hr1⟩ := hpost.ok
    have hb1' : But (One g) w w1 := ((But.refl (One g) w).drew).trans_ hb1 (fun k hk e => e)
    have HB1 := Lib.hid hb1'
    have HY := Lib.hid hy
    have HR1 := Lib.hid (show Rdr g A bs cp d a2 w1 from HRD.out.next hb1' hr1 (HLE.out x a2 rfl))
    have hs0 : w1.cell? ⟨o, 6, none⟩ = some (.slice Av nv cv) := hb1'.cell_some q0 hog
    have hs1 : w1.cell? ⟨rb, 0, none⟩ = some (.pointer (some ⟨g, 0, none⟩)) := hb1'.cell_some q1 hrbg
    have HBOX1 := Lib.hid ((hb1'.block o hol hog).trans HBOX.out)
    have HRB1 := Lib.hid ((hb1'.block rb hrbl hrbg).trans HRB.out)
    have HOWN1 := Lib.hid (HOWN.out.but hb1' (fun k h1 h2 (e : k = g) => by omega))
    have HX' := Lib.hid (HX1.out _ _ _ _ hb1' HX.out)
    have hsz1 := hb1'.size
    have HTY := Lib.hid (El.typed HOWN1.out)
    have hrdl := HR1.out.lt
    have hne1 : ¬ w1.heap.size = o := by omega
    have hne2 : ¬ w1.heap.size = rb := by omega
    clear hb1 hb1' hy hr1 hpost hS
    simp only []
    refine hC1.out _ _ hs1 (fun hS => ?_)
    try simp only [putS, List.getElem_toArray, List.getElem_cons_zero, List.getElem_cons_succ]
    refine wpAnyH_ready (rs := [4]) (by kernel_rfl) (by simp) (AllReadyH.cons rfl (fun D1 hD1 => ?_) AllReadyH.nil)
    rw [if_pos (by kernel_rfl)]
    go_simp
    have hAs : But No w1 (w1.alloc (.cells #[.slice x'.1.1 x'.1.2.1 x'.1.2.2, .int .i64 x'.2] 58)) := (But.refl No w1).alloc _
    refine hD1.out _ _ (hAs.cell_some hs1 (fun c => c)) (fun hS => ?_)
    try simp only [putS, List.getElem_toArray, List.getElem_cons_zero, List.getElem_cons_succ]
    clear hs0 hs1 q0 q1
    refine wpAnyH_ready (rs := [5]) (by kernel_rfl) (by simp) (AllReadyH.cons rfl (fun K5 hK5 => ?_) AllReadyH.nil)
    refine rlE.step1 rfl _ _ rfl rfl w0.heap.size (.slice Av nv cv) lv rfl (HOWN1.out.alloc _) w1.heap.size x' #[.slice x'.1.1 x'.1.2.1 x'.1.2.2, .int .i64 x'.2] rfl rfl (heap_alloc_new w1 _) (by show (lv.length + 1) * (32 + 1) ≤ _; omega) (by simp; omega) ?_
    intro g2 c2 w3 hown hgrow
    have hno : some o ≠ (Value.slice Av nv cv).ownBlock := fun e => by
      obtain ⟨_, _, cs, hc⟩ := HTY.out o e.symm
      rw [HBOX1.out] at hc
      injection hc with hc
      injection hc with _ hc
      exact hbt hc
    have hnr : some rb ≠ (Value.slice Av nv cv).ownBlock := fun e => by
      obtain ⟨_, _, cs, hc⟩ := HTY.out rb e.symm
      rw [HRB1.out] at hc
      injection hc with hc
      injection hc with _ hc
      exact absurd hc (by decide)
    have HO3 := Lib.hid ((hgrow.block o (by simp; omega) hno).trans (blkold HBOX1.out (.cells #[.slice x'.1.1 x'.1.2.1 x'.1.2.2, .int .i64 x'.2] 58)))
    have HR3 := Lib.hid ((hgrow.block rb (by simp; omega) hnr).trans (blkold HRB1.out (.cells #[.slice x'.1.1 x'.1.2.1 x'.1.2.2, .int .i64 x'.2] 58)))
    have hB3 : But (Lay g o 58 w1) w1 w3 := ((But.refl (Lay g o 58 w1) w1).alloc (.cells #[.slice x'.1.1 x'.1.2.1 x'.1.2.2, .int .i64 x'.2] 58)).grown hgrow (fun k hk => .inl (.inr (.inr (HTY.out k hk).2.2)))
    have hG3 : But (fun k => w0.heap.size ≤ k) w1 w3 := ((But.refl (fun k => w0.heap.size ≤ k) w1).alloc (.cells #[.slice x'.1.1 x'.1.2.1 x'.1.2.2, .int .i64 x'.2] 58)).grown hgrow (fun k hk => .inl (HTY.out k hk).1)
    have q0 : w3.cell? ⟨o, 6, none⟩ = some (.slice Av nv cv) := by
      rw [cell_of_row w3 o 6 _ _ _ HO3.out]
      simp [hcs]
    have q1 : w3.cell? ⟨rb, 0, none⟩ = some (.pointer (some ⟨g, 0, none⟩)) := blkcell HR3.out 0 (by simp)
    have qf : w3.frozen? ⟨o, 6, none⟩ = false := blkfree HO3.out 6
    have HOW := Lib.hid hown
    have HB3 := Lib.hid hB3
    have HG3 := Lib.hid hG3
    clear hown hgrow hno hnr hB3 hG3
    refine hK5.out _ _ q1 (fun hS => ?_)
    try simp only [putS, List.getElem_toArray, List.getElem_cons_zero, List.getElem_cons_succ]
    refine takeE 6 (some 8) rfl rfl (fun w e1 => by go_simp <;> (with_reducible rfl)) hS ?_
    simp only [putS]
    refine wpAnyH_ready (rs := [7]) (by kernel_rfl) (by simp) (AllReadyH.cons rfl (fun K7 hK7 => ?_) AllReadyH.nil)
    rw [if_pos (by kernel_rfl)]
    go_simp
    have hrbo' : ¬ o = rb := fun e => hrbo e.symm
    refine hK7.out _ _ (by go_simp) (fun hS => ?_)
    try simp only [putS, List.getElem_toArray, List.getElem_cons_zero, List.getElem_cons_succ]
    refine wpAnyH_done (by kernel_rfl) ?_ _
    go_wp2_with fail
    go_end0
    have hF1 := blkset HO3.out 6 (.slice (some ⟨g2, 0, none⟩) (lv.length + 1) c2)
    rw [setSame] at hF1
    have hL4 := HB3.out.setCell (p := ⟨o, 6, none⟩) (.inl (.inr (.inl rfl))) (.slice (some ⟨g2, 0, none⟩) (lv.length + 1) c2)
    have hG4 := HG3.out.setCell (p := ⟨o, 6, none⟩) (.inl ho) (.slice (some ⟨g2, 0, none⟩) (lv.length + 1) c2)
    refine ⟨rfl, HR1.out.moved hG4 (fun k hk h => by omega) hgw hAo, (HB0.out.trans HB1.out).trans_ hG4 (fun k hk h => by omega), blkfar HR3.out (p := ⟨o, 6, none⟩) hrbo _, _, lv ++ [x'], hF1, ?_, by rw [List.length_append, List.length_append, HLV.out]; rfl, HX2.out _ _ _ _ w.drew _ _ (HB0.out.trans HB1.out) (by show w.heap.size ≤ _; omega) (by show o < w.heap.size; omega) ⟨_, HBOX1.out⟩ HX'.out HY.out hL4⟩
    have hh := HOW.out
    rw [show lv.length + 1 = (lv ++ [x']).length from by rw [List.length_append]; rfl] at hh ⊢
    refine own_at hh fun k hk => Below.heap_setCell _ _ _ _ (fun e => ?_)
    obtain ⟨_, _, cs, hc⟩ := El.typed hh k hk
    rw [e, HO3.out] at hc
    injection hc with hc
    injection hc with _ hc
    exact hbt hc
  · skip
    rw [if_pos (by kernel_rfl)]
    go_simp
    go_at_call 61
    refine (HCALL.out _ (show Rdr g A bs cp d a w.drew from ⟨HRD.out.rd, HRD.out.far, HRD.out.le⟩)).mono ?_
    intro e w1 hpost
    rcases r with ⟨c, a2⟩ | ⟨x, a2⟩
    · obtain ⟨hb1, rfl, hr1⟩ := hpost.no
      exact ⟨rfl, rfl, hr1, (HB0.out.drew).trans_ hb1 (fun k hk e => e)⟩
    obtain ⟨hb1, ⟨x', rfl, hy⟩, hr1⟩ := hpost.ok
    have hb1' : But (One g) w w1 := ((But.refl (One g) w).drew).trans_ hb1 (fun k hk e => e)
    have HB1 := Lib.hid hb1'
    have HY := Lib.hid hy
    have HR1 := Lib.hid (show Rdr g A bs cp d a2 w1 from HRD.out.next hb1' hr1 (HLE.out x a2 rfl))
    have hs0 : w1.cell? ⟨o, 6, none⟩ = some (.slice Av nv cv) := hb1'.cell_some q0 hog
    have hs1 : w1.cell? ⟨rb, 0, none⟩ = some (.pointer (some ⟨g, 0, none⟩)) := hb1'.cell_some q1 hrbg
    have HBOX1 := Lib.hid ((hb1'.block o hol hog).trans HBOX.out)
    have HRB1 := Lib.hid ((hb1'.block rb hrbl hrbg).trans HRB.out)
    have HOWN1 := Lib.hid (HOWN.out.but hb1' (fun k h1 h2 (e : k = g) => by omega))
    have HX' := Lib.hid (HX1.out _ _ _ _ hb1' HX.out)
    have hsz1 := hb1'.size
    have HTY := Lib.hid (El.typed HOWN1.out)
    have hrdl := HR1.out.lt
    have hne1 : ¬ w1.heap.size = o := by omega
    have hne2 : ¬ w1.heap.size = rb := by omega
    clear hb1 hb1' hy hr1 hpost hS
    simp only []
    refine hA2.out _ _ hs1 (fun hS => ?_)
    try simp only [putS, List.getElem_toArray, List.getElem_cons_zero, List.getElem_cons_succ]
    refine wpAnyH_ready (rs := [1, 4]) (by kernel_rfl) (by simp) (AllReadyH.cons rfl (fun D1 hD1 => ?_) (AllReadyH.cons rfl (fun D2 hD2 => ?_) AllReadyH.nil))
    · skip
      rw [if_pos (by kernel_rfl)]
      go_simp
      refine hD1.out _ _ (hs1) (fun hS => ?_)
      try simp only [putS, List.getElem_toArray, List.getElem_cons_zero, List.getElem_cons_succ]
      refine wpAnyH_ready (rs := [4]) (by kernel_rfl) (by simp) (AllReadyH.cons rfl (fun F1 hF1 => ?_) AllReadyH.nil)
      rw [if_pos (by kernel_rfl)]
      go_simp
      have hAs : But No w1 (w1.alloc (.cells #[.slice x'.1.1 x'.1.2.1 x'.1.2.2, .int .i64 x'.2] 58)) := (But.refl No w1).alloc _
      refine hF1.out _ _ (hAs.cell_some hs1 (fun c => c)) (fun hS => ?_)
      try simp only [putS, List.getElem_toArray, List.getElem_cons_zero, List.getElem_cons_succ]
      clear hs0 hs1 q0 q1
      refine wpAnyH_ready (rs := [5]) (by kernel_rfl) (by simp) (AllReadyH.cons rfl (fun K5 hK5 => ?_) AllReadyH.nil)
      refine rlE.step1 rfl _ _ rfl rfl w0.heap.size (.slice Av nv cv) lv rfl (HOWN1.out.alloc _) w1.heap.size x' #[.slice x'.1.1 x'.1.2.1 x'.1.2.2, .int .i64 x'.2] rfl rfl (heap_alloc_new w1 _) (by show (lv.length + 1) * (32 + 1) ≤ _; omega) (by simp; omega) ?_
      intro g2 c2 w3 hown hgrow
      have hno : some o ≠ (Value.slice Av nv cv).ownBlock := fun e => by
        obtain ⟨_, _, cs, hc⟩ := HTY.out o e.symm
        rw [HBOX1.out] at hc
        injection hc with hc
        injection hc with _ hc
        exact hbt hc
      have hnr : some rb ≠ (Value.slice Av nv cv).ownBlock := fun e => by
        obtain ⟨_, _, cs, hc⟩ := HTY.out rb e.symm
        rw [HRB1.out] at hc
        injection hc with hc
        injection hc with _ hc
        exact absurd hc (by decide)
      have HO3 := Lib.hid ((hgrow.block o (by simp; omega) hno).trans (blkold HBOX1.out (.cells #[.slice x'.1.1 x'.1.2.1 x'.1.2.2, .int .i64 x'.2] 58)))
      have HR3 := Lib.hid ((hgrow.block rb (by simp; omega) hnr).trans (blkold HRB1.out (.cells #[.slice x'.1.1 x'.1.2.1 x'.1.2.2, .int .i64 x'.2] 58)))
      have hB3 : But (Lay g o 58 w1) w1 w3 := ((But.refl (Lay g o 58 w1) w1).alloc (.cells #[.slice x'.1.1 x'.1.2.1 x'.1.2.2, .int .i64 x'.2] 58)).grown hgrow (fun k hk => .inl (.inr (.inr (HTY.out k hk).2.2)))
      have hG3 : But (fun k => w0.heap.size ≤ k) w1 w3 := ((But.refl (fun k => w0.heap.size ≤ k) w1).alloc (.cells #[.slice x'.1.1 x'.1.2.1 x'.1.2.2, .int .i64 x'.2] 58)).grown hgrow (fun k hk => .inl (HTY.out k hk).1)
      have q0 : w3.cell? ⟨o, 6, none⟩ = some (.slice Av nv cv) := by
        rw [cell_of_row w3 o 6 _ _ _ HO3.out]
        simp [hcs]
      have q1 : w3.cell? ⟨rb, 0, none⟩ = some (.pointer (some ⟨g, 0, none⟩)) := blkcell HR3.out 0 (by simp)
      have qf : w3.frozen? ⟨o, 6, none⟩ = false := blkfree HO3.out 6
      have HOW := Lib.hid hown
      have HB3 := Lib.hid hB3
      have HG3 := Lib.hid hG3
      clear hown hgrow hno hnr hB3 hG3
      refine hK5.out _ _ q1 (fun hS => ?_)
      try simp only [putS, List.getElem_toArray, List.getElem_cons_zero, List.getElem_cons_succ]
      refine takeE 6 (some 8) rfl rfl (fun w e1 => by go_simp <;> (with_reducible rfl)) hS ?_
      simp only [putS]
      refine wpAnyH_ready (rs := [7]) (by kernel_rfl) (by simp) (AllReadyH.cons rfl (fun K7 hK7 => ?_) AllReadyH.nil)
      rw [if_pos (by kernel_rfl)]
      go_simp
      have hrbo' : ¬ o = rb := fun e => hrbo e.symm
      refine hK7.out _ _ (by go_simp) (fun hS => ?_)
      try simp only [putS, List.getElem_toArray, List.getElem_cons_zero, List.getElem_cons_succ]
      refine wpAnyH_done (by kernel_rfl) ?_ _
      go_wp2_with fail
      go_end0
      have hF1 := blkset HO3.out 6 (.slice (some ⟨g2, 0, none⟩) (lv.length + 1) c2)
      rw [setSame] at hF1
      have hL4 := HB3.out.setCell (p := ⟨o, 6, none⟩) (.inl (.inr (.inl rfl))) (.slice (some ⟨g2, 0, none⟩) (lv.length + 1) c2)
      have hG4 := HG3.out.setCell (p := ⟨o, 6, none⟩) (.inl ho) (.slice (some ⟨g2, 0, none⟩) (lv.length + 1) c2)
      refine ⟨rfl, HR1.out.moved hG4 (fun k hk h => by omega) hgw hAo, (HB0.out.trans HB1.out).trans_ hG4 (fun k hk h => by omega), blkfar HR3.out (p := ⟨o, 6, none⟩) hrbo _, _, lv ++ [x'], hF1, ?_, by rw [List.length_append, List.length_append, HLV.out]; rfl, HX2.out _ _ _ _ w.drew _ _ (HB0.out.trans HB1.out) (by show w.heap.size ≤ _; omega) (by show o < w.heap.size; omega) ⟨_, HBOX1.out⟩ HX'.out HY.out hL4⟩
      have hh := HOW.out
      rw [show lv.length + 1 = (lv ++ [x']).length from by rw [List.length_append]; rfl] at hh ⊢
      refine own_at hh fun k hk => Below.heap_setCell _ _ _ _ (fun e => ?_)
      obtain ⟨_, _, cs, hc⟩ := El.typed hh k hk
      rw [e, HO3.out] at hc
      injection hc with hc
      injection hc with _ hc
      exact hbt hc
    · skip
      rw [if_pos (by kernel_rfl)]
      go_simp
      have hAs : But No w1 (w1.alloc (.cells #[.slice x'.1.1 x'.1.2.1 x'.1.2.2, .int .i64 x'.2] 58)) := (But.refl No w1).alloc _
      refine hD2.out _ _ (hAs.cell_some hs1 (fun c => c)) (fun hS => ?_)
      try simp only [putS, List.getElem_toArray, List.getElem_cons_zero, List.getElem_cons_succ]
      refine wpAnyH_ready (rs := [1]) (by kernel_rfl) (by simp) (AllReadyH.cons rfl (fun F1 hF1 => ?_) AllReadyH.nil)
      have hs0' := hAs.cell_some hs0 (fun c => c)
      rw [if_pos (by kernel_rfl)]
      go_simp
      refine hF1.out _ _ (hAs.cell_some hs1 (fun c => c)) (fun hS => ?_)
      try simp only [putS, List.getElem_toArray, List.getElem_cons_zero, List.getElem_cons_succ]
      clear hs0'
      clear hs0 hs1 q0 q1
      refine wpAnyH_ready (rs := [5]) (by kernel_rfl) (by simp) (AllReadyH.cons rfl (fun K5 hK5 => ?_) AllReadyH.nil)
      refine rlE.step1 rfl _ _ rfl rfl w0.heap.size (.slice Av nv cv) lv rfl (HOWN1.out.alloc _) w1.heap.size x' #[.slice x'.1.1 x'.1.2.1 x'.1.2.2, .int .i64 x'.2] rfl rfl (heap_alloc_new w1 _) (by show (lv.length + 1) * (32 + 1) ≤ _; omega) (by simp; omega) ?_
      intro g2 c2 w3 hown hgrow
      have hno : some o ≠ (Value.slice Av nv cv).ownBlock := fun e => by
        obtain ⟨_, _, cs, hc⟩ := HTY.out o e.symm
        rw [HBOX1.out] at hc
        injection hc with hc
        injection hc with _ hc
        exact hbt hc
      have hnr : some rb ≠ (Value.slice Av nv cv).ownBlock := fun e => by
        obtain ⟨_, _, cs, hc⟩ := HTY.out rb e.symm
        rw [HRB1.out] at hc
        injection hc with hc
        injection hc with _ hc
        exact absurd hc (by decide)
      have HO3 := Lib.hid ((hgrow.block o (by simp; omega) hno).trans (blkold HBOX1.out (.cells #[.slice x'.1.1 x'.1.2.1 x'.1.2.2, .int .i64 x'.2] 58)))
      have HR3 := Lib.hid ((hgrow.block rb (by simp; omega) hnr).trans (blkold HRB1.out (.cells #[.slice x'.1.1 x'.1.2.1 x'.1.2.2, .int .i64 x'.2] 58)))
      have hB3 : But (Lay g o 58 w1) w1 w3 := ((But.refl (Lay g o 58 w1) w1).alloc (.cells #[.slice x'.1.1 x'.1.2.1 x'.1.2.2, .int .i64 x'.2] 58)).grown hgrow (fun k hk => .inl (.inr (.inr (HTY.out k hk).2.2)))
      have hG3 : But (fun k => w0.heap.size ≤ k) w1 w3 := ((But.refl (fun k => w0.heap.size ≤ k) w1).alloc (.cells #[.slice x'.1.1 x'.1.2.1 x'.1.2.2, .int .i64 x'.2] 58)).grown hgrow (fun k hk => .inl (HTY.out k hk).1)
      have q0 : w3.cell? ⟨o, 6, none⟩ = some (.slice Av nv cv) := by
        rw [cell_of_row w3 o 6 _ _ _ HO3.out]
        simp [hcs]
      have q1 : w3.cell? ⟨rb, 0, none⟩ = some (.pointer (some ⟨g, 0, none⟩)) := blkcell HR3.out 0 (by simp)
      have qf : w3.frozen? ⟨o, 6, none⟩ = false := blkfree HO3.out 6
      have HOW := Lib.hid hown
      have HB3 := Lib.hid hB3
      have HG3 := Lib.hid hG3
      clear hown hgrow hno hnr hB3 hG3
      refine hK5.out _ _ q1 (fun hS => ?_)
      try simp only [putS, List.getElem_toArray, List.getElem_cons_zero, List.getElem_cons_succ]
      refine takeE 6 (some 8) rfl rfl (fun w e1 => by go_simp <;> (with_reducible rfl)) hS ?_
      simp only [putS]
      refine wpAnyH_ready (rs := [7]) (by kernel_rfl) (by simp) (AllReadyH.cons rfl (fun K7 hK7 => ?_) AllReadyH.nil)
      rw [if_pos (by kernel_rfl)]
      go_simp
      have hrbo' : ¬ o = rb := fun e => hrbo e.symm
      refine hK7.out _ _ (by go_simp) (fun hS => ?_)
      try simp only [putS, List.getElem_toArray, List.getElem_cons_zero, List.getElem_cons_succ]
      refine wpAnyH_done (by kernel_rfl) ?_ _
      go_wp2_with fail
      go_end0
      have hF1 := blkset HO3.out 6 (.slice (some ⟨g2, 0, none⟩) (lv.length + 1) c2)
      rw [setSame] at hF1
      have hL4 := HB3.out.setCell (p := ⟨o, 6, none⟩) (.inl (.inr (.inl rfl))) (.slice (some ⟨g2, 0, none⟩) (lv.length + 1) c2)
      have hG4 := HG3.out.setCell (p := ⟨o, 6, none⟩) (.inl ho) (.slice (some ⟨g2, 0, none⟩) (lv.length + 1) c2)
      refine ⟨rfl, HR1.out.moved hG4 (fun k hk h => by omega) hgw hAo, (HB0.out.trans HB1.out).trans_ hG4 (fun k hk h => by omega), blkfar HR3.out (p := ⟨o, 6, none⟩) hrbo _, _, lv ++ [x'], hF1, ?_, by rw [List.length_append, List.length_append, HLV.out]; rfl, HX2.out _ _ _ _ w.drew _ _ (HB0.out.trans HB1.out) (by show w.heap.size ≤ _; omega) (by show o < w.heap.size; omega) ⟨_, HBOX1.out⟩ HX'.out HY.out hL4⟩
      have hh := HOW.out
      rw [show lv.length + 1 = (lv ++ [x']).length from by rw [List.length_append]; rfl] at hh ⊢
      refine own_at hh fun k hk => Below.heap_setCell _ _ _ _ (fun e => ?_)
      obtain ⟨_, _, cs, hc⟩ := El.typed hh k hk
      rw [e, HO3.out] at hc
      injection hc with hc
      injection hc with _ hc
      exact hbt hc

set_option maxHeartbeats 4000000 in
theorem planJob {σ : Type} {g : Nat} {A : Option Addr} {bs : List Int} {cp : Nat} {d : Int} {w0 : World} {rb o : Nat} {cs0 : Array Value} {X : List σ → List JobV → World → Prop} {a : Nat} {l : List σ} {w : World} (f : Nat → RR σ) (Y : World → σ → JobV → World → Prop)
    (h : BoxInv g A bs cp d w0 rb o 25 cs0 1 jbE X a l w) (hl : l.length < 268435456) (hcs : 1 < cs0.size) (ho : w0.heap.size ≤ o) (hgw : g < w0.heap.size) (hAo : ∀ ad, A = some ad → ad.block < w0.heap.size) (hbt : 25 ≠ 52)
    (hcall : ∀ W, Rdr g A bs cp d a W → Calls Try.prog 50 #[.pointer (some ⟨g, 0, none⟩)] W (RPost g A bs cp d W (One g) (f a) fun x e W' => ∃ x', e = .returned (.agg #[.int .i64 x'.one.name, .int .i64 x'.one.run, .int .i64 x'.one.stage, .int .i64 x'.one.when_, .bool x'.allow, .int .i64 x'.one.weight, .slice x'.rules.1 x'.rules.2.1 x'.rules.2.2, .slice x'.vars.1 x'.vars.2.1 x'.vars.2.2, .slice x'.preds.1 x'.preds.2.1 x'.preds.2.2]) ∧ Y W x x' W'))
    (hle : ∀ x a', f a = .inr (x, a') → a' ≤ bs.length)
    (hX1 : ∀ ls lv W W', But (One g) W W' → X ls lv W → X ls lv W')
    (hX2 : ∀ ls lv x x' W0 W W', But (One g) w0 W → W0.heap.size ≤ W.heap.size → o < W0.heap.size → (∃ cs, W.heap[o]? = some (.cells cs 25 (0, 0))) → X ls lv W → Y W0 x x' W → But (Lay g o 52 W) W W' → X (ls ++ [x]) (lv ++ [x']) W') :
    Calls Try.prog 49 #[.pointer (some ⟨o, 0, none⟩), .pointer (some ⟨rb, 0, none⟩)] w (OnePost (BadR g A bs cp d w0) (BoxInv g A bs cp d w0 rb o 25 cs0 1 jbE X) l (f a)) := by
  obtain ⟨v, lv, hbox, hown, hlv, hx⟩ := h.box
  have hrd := h.rdr
  have hbt0 := h.but
  have hog : o ≠ g := by omega
  have hrb := h.rbx
  have q0 : w.cell? ⟨o, 1, none⟩ = some v := by
    rw [cell_of_row w o 1 _ _ _ hbox]
    simp [hcs]
  have q1 : w.cell? ⟨rb, 0, none⟩ = some (.pointer (some ⟨g, 0, none⟩)) := blkcell hrb 0 (by simp)
  have HBOX := Lib.hid hbox
  have HOWN := Lib.hid hown
  have HX := Lib.hid hx
  have HRD := Lib.hid hrd
  have HB0 := Lib.hid hbt0
  have HRB := Lib.hid hrb
  have hlvl : lv.length < 268435456 := by omega
  have HLV := Lib.hid hlv
  have hsz0 := hbt0.size
  have hol := lt_of_block hbox
  have hrbl := lt_of_block hrb
  have hrbo : rb ≠ o := by
    intro e
    rw [e, hbox] at hrb
    injection hrb with hrb
    injection hrb with _ h2
    exact absurd h2 (by decide)
  have hrbg : rb ≠ g := by
    intro e
    have h1 := hrd.rd
    unfold RdIn at h1
    rw [← e, hrb] at h1
    injection h1 with h1
    injection h1 with _ h2
    exact absurd h2 (by decide)
  have HCALL := Lib.hid hcall
  have HX1 := Lib.hid hX1
  have HX2 := Lib.hid hX2
  obtain ⟨r, hr⟩ : ∃ r, f a = r := ⟨_, rfl⟩
  have HLE := Lib.hid hle
  rw [hr] at HCALL HLE ⊢
  obtain ⟨Av, nv, cv, hv⟩ : ∃ A n c, v = Value.slice A n c := (by obtain ⟨A, c, h⟩ := hown.slice; exact ⟨A, _, c, h⟩)
  subst hv
  clear h hbox hown hx hrd hbt0 hrb hcall hX1 hX2 hlv hr hle
  go_enter Try.func49, Try.ntmps49
  go_wp2_with fail
  refine wp_region_held_drew (S := fun w' => w'.cell? ⟨rb, 0, none⟩ = some (.pointer (some ⟨g, 0, none⟩))) (by kernel_rfl) q1 (fun hS => ?_)
  refine takeE 0 (some 2) rfl rfl (fun w e1 => by go_simp <;> (with_reducible rfl)) hS ?_
  simp only [putS]
  refine takeE 2 (some 4) rfl rfl (fun w e1 => by go_simp <;> (with_reducible rfl)) hS ?_
  simp only [putS]
  refine wpAnyH_ready (rs := [1, 3]) (by kernel_rfl) (by simp) (AllReadyH.cons rfl (fun A1 hA1 => ?_) (AllReadyH.cons rfl (fun A2 hA2 => ?_) AllReadyH.nil))
  · skip
    rw [if_pos (by kernel_rfl)]
    go_simp
    refine hA1.out _ _ (q1) (fun hS => ?_)
    try simp only [putS, List.getElem_toArray, List.getElem_cons_zero, List.getElem_cons_succ]
    refine wpAnyH_ready (rs := [3]) (by kernel_rfl) (by simp) (AllReadyH.cons rfl (fun C1 hC1 => ?_) AllReadyH.nil)
    rw [if_pos (by kernel_rfl)]
    go_simp
    go_at_call 50
    refine (HCALL.out _ (show Rdr g A bs cp d a w.drew from ⟨HRD.out.rd, HRD.out.far, HRD.out.le⟩)).mono ?_
    intro e w1 hpost
    rcases r with ⟨c, a2⟩ | ⟨x, a2⟩
    · obtain ⟨hb1, rfl, hr1⟩ := hpost.no
      exact ⟨rfl, rfl, hr1, (HB0.out.drew).trans_ hb1 (fun k hk e => e)⟩
    obtain ⟨hb1, ⟨x', rfl, hy⟩, hr1⟩ := hpost.ok
    have hb1' : But (One g) w w1 := ((But.refl (One g) w).drew).trans_ hb1 (fun k hk e => e)
    have HB1 := Lib.hid hb1'
    have HY := Lib.hid hy
    have HR1 := Lib.hid (show Rdr g A bs cp d a2 w1 from HRD.out.next hb1' hr1 (HLE.out x a2 rfl))
    have hs0 : w1.cell? ⟨o, 1, none⟩ = some (.slice Av nv cv) := hb1'.cell_some q0 hog
    have hs1 : w1.cell? ⟨rb, 0, none⟩ = some (.pointer (some ⟨g, 0, none⟩)) := hb1'.cell_some q1 hrbg
    have HBOX1 := Lib.hid ((hb1'.block o hol hog).trans HBOX.out)
    have HRB1 := Lib.hid ((hb1'.block rb hrbl hrbg).trans HRB.out)
    have HOWN1 := Lib.hid (HOWN.out.but hb1' (fun k h1 h2 (e : k = g) => by omega))
    have HX' := Lib.hid (HX1.out _ _ _ _ hb1' HX.out)
    have hsz1 := hb1'.size
    have HTY := Lib.hid (El.typed HOWN1.out)
    have hrdl := HR1.out.lt
    have hne1 : ¬ w1.heap.size = o := by omega
    have hne2 : ¬ w1.heap.size = rb := by omega
    clear hb1 hb1' hy hr1 hpost hS
    simp only []
    refine hC1.out _ _ hs1 (fun hS => ?_)
    try simp only [putS, List.getElem_toArray, List.getElem_cons_zero, List.getElem_cons_succ]
    refine wpAnyH_ready (rs := [4]) (by kernel_rfl) (by simp) (AllReadyH.cons rfl (fun D1 hD1 => ?_) AllReadyH.nil)
    rw [if_pos (by kernel_rfl)]
    go_simp
    have hAs : But No w1 (w1.alloc (.cells #[.int .i64 x'.one.name, .int .i64 x'.one.run, .int .i64 x'.one.stage, .int .i64 x'.one.when_, .bool x'.allow, .int .i64 x'.one.weight, .slice x'.rules.1 x'.rules.2.1 x'.rules.2.2, .slice x'.vars.1 x'.vars.2.1 x'.vars.2.2, .slice x'.preds.1 x'.preds.2.1 x'.preds.2.2] 52)) := (But.refl No w1).alloc _
    refine hD1.out _ _ (hAs.cell_some hs1 (fun c => c)) (fun hS => ?_)
    try simp only [putS, List.getElem_toArray, List.getElem_cons_zero, List.getElem_cons_succ]
    clear hs0 hs1 q0 q1
    refine wpAnyH_ready (rs := [5]) (by kernel_rfl) (by simp) (AllReadyH.cons rfl (fun K5 hK5 => ?_) AllReadyH.nil)
    refine jbE.step1 rfl _ _ rfl rfl w0.heap.size (.slice Av nv cv) lv rfl (HOWN1.out.alloc _) w1.heap.size x' #[.int .i64 x'.one.name, .int .i64 x'.one.run, .int .i64 x'.one.stage, .int .i64 x'.one.when_, .bool x'.allow, .int .i64 x'.one.weight, .slice x'.rules.1 x'.rules.2.1 x'.rules.2.2, .slice x'.vars.1 x'.vars.2.1 x'.vars.2.2, .slice x'.preds.1 x'.preds.2.1 x'.preds.2.2] rfl rfl (heap_alloc_new w1 _) (by show (lv.length + 1) * (120 + 1) ≤ _; omega) (by simp; omega) ?_
    intro g2 c2 w3 hown hgrow
    have hno : some o ≠ (Value.slice Av nv cv).ownBlock := fun e => by
      obtain ⟨_, _, cs, hc⟩ := HTY.out o e.symm
      rw [HBOX1.out] at hc
      injection hc with hc
      injection hc with _ hc
      exact hbt hc
    have hnr : some rb ≠ (Value.slice Av nv cv).ownBlock := fun e => by
      obtain ⟨_, _, cs, hc⟩ := HTY.out rb e.symm
      rw [HRB1.out] at hc
      injection hc with hc
      injection hc with _ hc
      exact absurd hc (by decide)
    have HO3 := Lib.hid ((hgrow.block o (by simp; omega) hno).trans (blkold HBOX1.out (.cells #[.int .i64 x'.one.name, .int .i64 x'.one.run, .int .i64 x'.one.stage, .int .i64 x'.one.when_, .bool x'.allow, .int .i64 x'.one.weight, .slice x'.rules.1 x'.rules.2.1 x'.rules.2.2, .slice x'.vars.1 x'.vars.2.1 x'.vars.2.2, .slice x'.preds.1 x'.preds.2.1 x'.preds.2.2] 52)))
    have HR3 := Lib.hid ((hgrow.block rb (by simp; omega) hnr).trans (blkold HRB1.out (.cells #[.int .i64 x'.one.name, .int .i64 x'.one.run, .int .i64 x'.one.stage, .int .i64 x'.one.when_, .bool x'.allow, .int .i64 x'.one.weight, .slice x'.rules.1 x'.rules.2.1 x'.rules.2.2, .slice x'.vars.1 x'.vars.2.1 x'.vars.2.2, .slice x'.preds.1 x'.preds.2.1 x'.preds.2.2] 52)))
    have hB3 : But (Lay g o 52 w1) w1 w3 := ((But.refl (Lay g o 52 w1) w1).alloc (.cells #[.int .i64 x'.one.name, .int .i64 x'.one.run, .int .i64 x'.one.stage, .int .i64 x'.one.when_, .bool x'.allow, .int .i64 x'.one.weight, .slice x'.rules.1 x'.rules.2.1 x'.rules.2.2, .slice x'.vars.1 x'.vars.2.1 x'.vars.2.2, .slice x'.preds.1 x'.preds.2.1 x'.preds.2.2] 52)).grown hgrow (fun k hk => .inl (.inr (.inr (HTY.out k hk).2.2)))
    have hG3 : But (fun k => w0.heap.size ≤ k) w1 w3 := ((But.refl (fun k => w0.heap.size ≤ k) w1).alloc (.cells #[.int .i64 x'.one.name, .int .i64 x'.one.run, .int .i64 x'.one.stage, .int .i64 x'.one.when_, .bool x'.allow, .int .i64 x'.one.weight, .slice x'.rules.1 x'.rules.2.1 x'.rules.2.2, .slice x'.vars.1 x'.vars.2.1 x'.vars.2.2, .slice x'.preds.1 x'.preds.2.1 x'.preds.2.2] 52)).grown hgrow (fun k hk => .inl (HTY.out k hk).1)
    have q0 : w3.cell? ⟨o, 1, none⟩ = some (.slice Av nv cv) := by
      rw [cell_of_row w3 o 1 _ _ _ HO3.out]
      simp [hcs]
    have q1 : w3.cell? ⟨rb, 0, none⟩ = some (.pointer (some ⟨g, 0, none⟩)) := blkcell HR3.out 0 (by simp)
    have qf : w3.frozen? ⟨o, 1, none⟩ = false := blkfree HO3.out 1
    have HOW := Lib.hid hown
    have HB3 := Lib.hid hB3
    have HG3 := Lib.hid hG3
    clear hown hgrow hno hnr hB3 hG3
    refine hK5.out _ _ q1 (fun hS => ?_)
    try simp only [putS, List.getElem_toArray, List.getElem_cons_zero, List.getElem_cons_succ]
    refine takeE 6 (some 8) rfl rfl (fun w e1 => by go_simp <;> (with_reducible rfl)) hS ?_
    simp only [putS]
    refine wpAnyH_ready (rs := [7]) (by kernel_rfl) (by simp) (AllReadyH.cons rfl (fun K7 hK7 => ?_) AllReadyH.nil)
    rw [if_pos (by kernel_rfl)]
    go_simp
    have hrbo' : ¬ o = rb := fun e => hrbo e.symm
    refine hK7.out _ _ (by go_simp) (fun hS => ?_)
    try simp only [putS, List.getElem_toArray, List.getElem_cons_zero, List.getElem_cons_succ]
    refine wpAnyH_done (by kernel_rfl) ?_ _
    go_wp2_with fail
    go_end0
    have hF1 := blkset HO3.out 1 (.slice (some ⟨g2, 0, none⟩) (lv.length + 1) c2)
    rw [setSame] at hF1
    have hL4 := HB3.out.setCell (p := ⟨o, 1, none⟩) (.inl (.inr (.inl rfl))) (.slice (some ⟨g2, 0, none⟩) (lv.length + 1) c2)
    have hG4 := HG3.out.setCell (p := ⟨o, 1, none⟩) (.inl ho) (.slice (some ⟨g2, 0, none⟩) (lv.length + 1) c2)
    refine ⟨rfl, HR1.out.moved hG4 (fun k hk h => by omega) hgw hAo, (HB0.out.trans HB1.out).trans_ hG4 (fun k hk h => by omega), blkfar HR3.out (p := ⟨o, 1, none⟩) hrbo _, _, lv ++ [x'], hF1, ?_, by rw [List.length_append, List.length_append, HLV.out]; rfl, HX2.out _ _ _ _ w.drew _ _ (HB0.out.trans HB1.out) (by show w.heap.size ≤ _; omega) (by show o < w.heap.size; omega) ⟨_, HBOX1.out⟩ HX'.out HY.out hL4⟩
    have hh := HOW.out
    rw [show lv.length + 1 = (lv ++ [x']).length from by rw [List.length_append]; rfl] at hh ⊢
    refine own_at hh fun k hk => Below.heap_setCell _ _ _ _ (fun e => ?_)
    obtain ⟨_, _, cs, hc⟩ := El.typed hh k hk
    rw [e, HO3.out] at hc
    injection hc with hc
    injection hc with _ hc
    exact hbt hc
  · skip
    rw [if_pos (by kernel_rfl)]
    go_simp
    go_at_call 50
    refine (HCALL.out _ (show Rdr g A bs cp d a w.drew from ⟨HRD.out.rd, HRD.out.far, HRD.out.le⟩)).mono ?_
    intro e w1 hpost
    rcases r with ⟨c, a2⟩ | ⟨x, a2⟩
    · obtain ⟨hb1, rfl, hr1⟩ := hpost.no
      exact ⟨rfl, rfl, hr1, (HB0.out.drew).trans_ hb1 (fun k hk e => e)⟩
    obtain ⟨hb1, ⟨x', rfl, hy⟩, hr1⟩ := hpost.ok
    have hb1' : But (One g) w w1 := ((But.refl (One g) w).drew).trans_ hb1 (fun k hk e => e)
    have HB1 := Lib.hid hb1'
    have HY := Lib.hid hy
    have HR1 := Lib.hid (show Rdr g A bs cp d a2 w1 from HRD.out.next hb1' hr1 (HLE.out x a2 rfl))
    have hs0 : w1.cell? ⟨o, 1, none⟩ = some (.slice Av nv cv) := hb1'.cell_some q0 hog
    have hs1 : w1.cell? ⟨rb, 0, none⟩ = some (.pointer (some ⟨g, 0, none⟩)) := hb1'.cell_some q1 hrbg
    have HBOX1 := Lib.hid ((hb1'.block o hol hog).trans HBOX.out)
    have HRB1 := Lib.hid ((hb1'.block rb hrbl hrbg).trans HRB.out)
    have HOWN1 := Lib.hid (HOWN.out.but hb1' (fun k h1 h2 (e : k = g) => by omega))
    have HX' := Lib.hid (HX1.out _ _ _ _ hb1' HX.out)
    have hsz1 := hb1'.size
    have HTY := Lib.hid (El.typed HOWN1.out)
    have hrdl := HR1.out.lt
    have hne1 : ¬ w1.heap.size = o := by omega
    have hne2 : ¬ w1.heap.size = rb := by omega
    clear hb1 hb1' hy hr1 hpost hS
    simp only []
    refine hA2.out _ _ hs1 (fun hS => ?_)
    try simp only [putS, List.getElem_toArray, List.getElem_cons_zero, List.getElem_cons_succ]
    refine wpAnyH_ready (rs := [1, 4]) (by kernel_rfl) (by simp) (AllReadyH.cons rfl (fun D1 hD1 => ?_) (AllReadyH.cons rfl (fun D2 hD2 => ?_) AllReadyH.nil))
    · skip
      rw [if_pos (by kernel_rfl)]
      go_simp
      refine hD1.out _ _ (hs1) (fun hS => ?_)
      try simp only [putS, List.getElem_toArray, List.getElem_cons_zero, List.getElem_cons_succ]
      refine wpAnyH_ready (rs := [4]) (by kernel_rfl) (by simp) (AllReadyH.cons rfl (fun F1 hF1 => ?_) AllReadyH.nil)
      rw [if_pos (by kernel_rfl)]
      go_simp
      have hAs : But No w1 (w1.alloc (.cells #[.int .i64 x'.one.name, .int .i64 x'.one.run, .int .i64 x'.one.stage, .int .i64 x'.one.when_, .bool x'.allow, .int .i64 x'.one.weight, .slice x'.rules.1 x'.rules.2.1 x'.rules.2.2, .slice x'.vars.1 x'.vars.2.1 x'.vars.2.2, .slice x'.preds.1 x'.preds.2.1 x'.preds.2.2] 52)) := (But.refl No w1).alloc _
      refine hF1.out _ _ (hAs.cell_some hs1 (fun c => c)) (fun hS => ?_)
      try simp only [putS, List.getElem_toArray, List.getElem_cons_zero, List.getElem_cons_succ]
      clear hs0 hs1 q0 q1
      refine wpAnyH_ready (rs := [5]) (by kernel_rfl) (by simp) (AllReadyH.cons rfl (fun K5 hK5 => ?_) AllReadyH.nil)
      refine jbE.step1 rfl _ _ rfl rfl w0.heap.size (.slice Av nv cv) lv rfl (HOWN1.out.alloc _) w1.heap.size x' #[.int .i64 x'.one.name, .int .i64 x'.one.run, .int .i64 x'.one.stage, .int .i64 x'.one.when_, .bool x'.allow, .int .i64 x'.one.weight, .slice x'.rules.1 x'.rules.2.1 x'.rules.2.2, .slice x'.vars.1 x'.vars.2.1 x'.vars.2.2, .slice x'.preds.1 x'.preds.2.1 x'.preds.2.2] rfl rfl (heap_alloc_new w1 _) (by show (lv.length + 1) * (120 + 1) ≤ _; omega) (by simp; omega) ?_
      intro g2 c2 w3 hown hgrow
      have hno : some o ≠ (Value.slice Av nv cv).ownBlock := fun e => by
        obtain ⟨_, _, cs, hc⟩ := HTY.out o e.symm
        rw [HBOX1.out] at hc
        injection hc with hc
        injection hc with _ hc
        exact hbt hc
      have hnr : some rb ≠ (Value.slice Av nv cv).ownBlock := fun e => by
        obtain ⟨_, _, cs, hc⟩ := HTY.out rb e.symm
        rw [HRB1.out] at hc
        injection hc with hc
        injection hc with _ hc
        exact absurd hc (by decide)
      have HO3 := Lib.hid ((hgrow.block o (by simp; omega) hno).trans (blkold HBOX1.out (.cells #[.int .i64 x'.one.name, .int .i64 x'.one.run, .int .i64 x'.one.stage, .int .i64 x'.one.when_, .bool x'.allow, .int .i64 x'.one.weight, .slice x'.rules.1 x'.rules.2.1 x'.rules.2.2, .slice x'.vars.1 x'.vars.2.1 x'.vars.2.2, .slice x'.preds.1 x'.preds.2.1 x'.preds.2.2] 52)))
      have HR3 := Lib.hid ((hgrow.block rb (by simp; omega) hnr).trans (blkold HRB1.out (.cells #[.int .i64 x'.one.name, .int .i64 x'.one.run, .int .i64 x'.one.stage, .int .i64 x'.one.when_, .bool x'.allow, .int .i64 x'.one.weight, .slice x'.rules.1 x'.rules.2.1 x'.rules.2.2, .slice x'.vars.1 x'.vars.2.1 x'.vars.2.2, .slice x'.preds.1 x'.preds.2.1 x'.preds.2.2] 52)))
      have hB3 : But (Lay g o 52 w1) w1 w3 := ((But.refl (Lay g o 52 w1) w1).alloc (.cells #[.int .i64 x'.one.name, .int .i64 x'.one.run, .int .i64 x'.one.stage, .int .i64 x'.one.when_, .bool x'.allow, .int .i64 x'.one.weight, .slice x'.rules.1 x'.rules.2.1 x'.rules.2.2, .slice x'.vars.1 x'.vars.2.1 x'.vars.2.2, .slice x'.preds.1 x'.preds.2.1 x'.preds.2.2] 52)).grown hgrow (fun k hk => .inl (.inr (.inr (HTY.out k hk).2.2)))
      have hG3 : But (fun k => w0.heap.size ≤ k) w1 w3 := ((But.refl (fun k => w0.heap.size ≤ k) w1).alloc (.cells #[.int .i64 x'.one.name, .int .i64 x'.one.run, .int .i64 x'.one.stage, .int .i64 x'.one.when_, .bool x'.allow, .int .i64 x'.one.weight, .slice x'.rules.1 x'.rules.2.1 x'.rules.2.2, .slice x'.vars.1 x'.vars.2.1 x'.vars.2.2, .slice x'.preds.1 x'.preds.2.1 x'.preds.2.2] 52)).grown hgrow (fun k hk => .inl (HTY.out k hk).1)
      have q0 : w3.cell? ⟨o, 1, none⟩ = some (.slice Av nv cv) := by
        rw [cell_of_row w3 o 1 _ _ _ HO3.out]
        simp [hcs]
      have q1 : w3.cell? ⟨rb, 0, none⟩ = some (.pointer (some ⟨g, 0, none⟩)) := blkcell HR3.out 0 (by simp)
      have qf : w3.frozen? ⟨o, 1, none⟩ = false := blkfree HO3.out 1
      have HOW := Lib.hid hown
      have HB3 := Lib.hid hB3
      have HG3 := Lib.hid hG3
      clear hown hgrow hno hnr hB3 hG3
      refine hK5.out _ _ q1 (fun hS => ?_)
      try simp only [putS, List.getElem_toArray, List.getElem_cons_zero, List.getElem_cons_succ]
      refine takeE 6 (some 8) rfl rfl (fun w e1 => by go_simp <;> (with_reducible rfl)) hS ?_
      simp only [putS]
      refine wpAnyH_ready (rs := [7]) (by kernel_rfl) (by simp) (AllReadyH.cons rfl (fun K7 hK7 => ?_) AllReadyH.nil)
      rw [if_pos (by kernel_rfl)]
      go_simp
      have hrbo' : ¬ o = rb := fun e => hrbo e.symm
      refine hK7.out _ _ (by go_simp) (fun hS => ?_)
      try simp only [putS, List.getElem_toArray, List.getElem_cons_zero, List.getElem_cons_succ]
      refine wpAnyH_done (by kernel_rfl) ?_ _
      go_wp2_with fail
      go_end0
      have hF1 := blkset HO3.out 1 (.slice (some ⟨g2, 0, none⟩) (lv.length + 1) c2)
      rw [setSame] at hF1
      have hL4 := HB3.out.setCell (p := ⟨o, 1, none⟩) (.inl (.inr (.inl rfl))) (.slice (some ⟨g2, 0, none⟩) (lv.length + 1) c2)
      have hG4 := HG3.out.setCell (p := ⟨o, 1, none⟩) (.inl ho) (.slice (some ⟨g2, 0, none⟩) (lv.length + 1) c2)
      refine ⟨rfl, HR1.out.moved hG4 (fun k hk h => by omega) hgw hAo, (HB0.out.trans HB1.out).trans_ hG4 (fun k hk h => by omega), blkfar HR3.out (p := ⟨o, 1, none⟩) hrbo _, _, lv ++ [x'], hF1, ?_, by rw [List.length_append, List.length_append, HLV.out]; rfl, HX2.out _ _ _ _ w.drew _ _ (HB0.out.trans HB1.out) (by show w.heap.size ≤ _; omega) (by show o < w.heap.size; omega) ⟨_, HBOX1.out⟩ HX'.out HY.out hL4⟩
      have hh := HOW.out
      rw [show lv.length + 1 = (lv ++ [x']).length from by rw [List.length_append]; rfl] at hh ⊢
      refine own_at hh fun k hk => Below.heap_setCell _ _ _ _ (fun e => ?_)
      obtain ⟨_, _, cs, hc⟩ := El.typed hh k hk
      rw [e, HO3.out] at hc
      injection hc with hc
      injection hc with _ hc
      exact hbt hc
    · skip
      rw [if_pos (by kernel_rfl)]
      go_simp
      have hAs : But No w1 (w1.alloc (.cells #[.int .i64 x'.one.name, .int .i64 x'.one.run, .int .i64 x'.one.stage, .int .i64 x'.one.when_, .bool x'.allow, .int .i64 x'.one.weight, .slice x'.rules.1 x'.rules.2.1 x'.rules.2.2, .slice x'.vars.1 x'.vars.2.1 x'.vars.2.2, .slice x'.preds.1 x'.preds.2.1 x'.preds.2.2] 52)) := (But.refl No w1).alloc _
      refine hD2.out _ _ (hAs.cell_some hs1 (fun c => c)) (fun hS => ?_)
      try simp only [putS, List.getElem_toArray, List.getElem_cons_zero, List.getElem_cons_succ]
      refine wpAnyH_ready (rs := [1]) (by kernel_rfl) (by simp) (AllReadyH.cons rfl (fun F1 hF1 => ?_) AllReadyH.nil)
      have hs0' := hAs.cell_some hs0 (fun c => c)
      rw [if_pos (by kernel_rfl)]
      go_simp
      refine hF1.out _ _ (hAs.cell_some hs1 (fun c => c)) (fun hS => ?_)
      try simp only [putS, List.getElem_toArray, List.getElem_cons_zero, List.getElem_cons_succ]
      clear hs0'
      clear hs0 hs1 q0 q1
      refine wpAnyH_ready (rs := [5]) (by kernel_rfl) (by simp) (AllReadyH.cons rfl (fun K5 hK5 => ?_) AllReadyH.nil)
      refine jbE.step1 rfl _ _ rfl rfl w0.heap.size (.slice Av nv cv) lv rfl (HOWN1.out.alloc _) w1.heap.size x' #[.int .i64 x'.one.name, .int .i64 x'.one.run, .int .i64 x'.one.stage, .int .i64 x'.one.when_, .bool x'.allow, .int .i64 x'.one.weight, .slice x'.rules.1 x'.rules.2.1 x'.rules.2.2, .slice x'.vars.1 x'.vars.2.1 x'.vars.2.2, .slice x'.preds.1 x'.preds.2.1 x'.preds.2.2] rfl rfl (heap_alloc_new w1 _) (by show (lv.length + 1) * (120 + 1) ≤ _; omega) (by simp; omega) ?_
      intro g2 c2 w3 hown hgrow
      have hno : some o ≠ (Value.slice Av nv cv).ownBlock := fun e => by
        obtain ⟨_, _, cs, hc⟩ := HTY.out o e.symm
        rw [HBOX1.out] at hc
        injection hc with hc
        injection hc with _ hc
        exact hbt hc
      have hnr : some rb ≠ (Value.slice Av nv cv).ownBlock := fun e => by
        obtain ⟨_, _, cs, hc⟩ := HTY.out rb e.symm
        rw [HRB1.out] at hc
        injection hc with hc
        injection hc with _ hc
        exact absurd hc (by decide)
      have HO3 := Lib.hid ((hgrow.block o (by simp; omega) hno).trans (blkold HBOX1.out (.cells #[.int .i64 x'.one.name, .int .i64 x'.one.run, .int .i64 x'.one.stage, .int .i64 x'.one.when_, .bool x'.allow, .int .i64 x'.one.weight, .slice x'.rules.1 x'.rules.2.1 x'.rules.2.2, .slice x'.vars.1 x'.vars.2.1 x'.vars.2.2, .slice x'.preds.1 x'.preds.2.1 x'.preds.2.2] 52)))
      have HR3 := Lib.hid ((hgrow.block rb (by simp; omega) hnr).trans (blkold HRB1.out (.cells #[.int .i64 x'.one.name, .int .i64 x'.one.run, .int .i64 x'.one.stage, .int .i64 x'.one.when_, .bool x'.allow, .int .i64 x'.one.weight, .slice x'.rules.1 x'.rules.2.1 x'.rules.2.2, .slice x'.vars.1 x'.vars.2.1 x'.vars.2.2, .slice x'.preds.1 x'.preds.2.1 x'.preds.2.2] 52)))
      have hB3 : But (Lay g o 52 w1) w1 w3 := ((But.refl (Lay g o 52 w1) w1).alloc (.cells #[.int .i64 x'.one.name, .int .i64 x'.one.run, .int .i64 x'.one.stage, .int .i64 x'.one.when_, .bool x'.allow, .int .i64 x'.one.weight, .slice x'.rules.1 x'.rules.2.1 x'.rules.2.2, .slice x'.vars.1 x'.vars.2.1 x'.vars.2.2, .slice x'.preds.1 x'.preds.2.1 x'.preds.2.2] 52)).grown hgrow (fun k hk => .inl (.inr (.inr (HTY.out k hk).2.2)))
      have hG3 : But (fun k => w0.heap.size ≤ k) w1 w3 := ((But.refl (fun k => w0.heap.size ≤ k) w1).alloc (.cells #[.int .i64 x'.one.name, .int .i64 x'.one.run, .int .i64 x'.one.stage, .int .i64 x'.one.when_, .bool x'.allow, .int .i64 x'.one.weight, .slice x'.rules.1 x'.rules.2.1 x'.rules.2.2, .slice x'.vars.1 x'.vars.2.1 x'.vars.2.2, .slice x'.preds.1 x'.preds.2.1 x'.preds.2.2] 52)).grown hgrow (fun k hk => .inl (HTY.out k hk).1)
      have q0 : w3.cell? ⟨o, 1, none⟩ = some (.slice Av nv cv) := by
        rw [cell_of_row w3 o 1 _ _ _ HO3.out]
        simp [hcs]
      have q1 : w3.cell? ⟨rb, 0, none⟩ = some (.pointer (some ⟨g, 0, none⟩)) := blkcell HR3.out 0 (by simp)
      have qf : w3.frozen? ⟨o, 1, none⟩ = false := blkfree HO3.out 1
      have HOW := Lib.hid hown
      have HB3 := Lib.hid hB3
      have HG3 := Lib.hid hG3
      clear hown hgrow hno hnr hB3 hG3
      refine hK5.out _ _ q1 (fun hS => ?_)
      try simp only [putS, List.getElem_toArray, List.getElem_cons_zero, List.getElem_cons_succ]
      refine takeE 6 (some 8) rfl rfl (fun w e1 => by go_simp <;> (with_reducible rfl)) hS ?_
      simp only [putS]
      refine wpAnyH_ready (rs := [7]) (by kernel_rfl) (by simp) (AllReadyH.cons rfl (fun K7 hK7 => ?_) AllReadyH.nil)
      rw [if_pos (by kernel_rfl)]
      go_simp
      have hrbo' : ¬ o = rb := fun e => hrbo e.symm
      refine hK7.out _ _ (by go_simp) (fun hS => ?_)
      try simp only [putS, List.getElem_toArray, List.getElem_cons_zero, List.getElem_cons_succ]
      refine wpAnyH_done (by kernel_rfl) ?_ _
      go_wp2_with fail
      go_end0
      have hF1 := blkset HO3.out 1 (.slice (some ⟨g2, 0, none⟩) (lv.length + 1) c2)
      rw [setSame] at hF1
      have hL4 := HB3.out.setCell (p := ⟨o, 1, none⟩) (.inl (.inr (.inl rfl))) (.slice (some ⟨g2, 0, none⟩) (lv.length + 1) c2)
      have hG4 := HG3.out.setCell (p := ⟨o, 1, none⟩) (.inl ho) (.slice (some ⟨g2, 0, none⟩) (lv.length + 1) c2)
      refine ⟨rfl, HR1.out.moved hG4 (fun k hk h => by omega) hgw hAo, (HB0.out.trans HB1.out).trans_ hG4 (fun k hk h => by omega), blkfar HR3.out (p := ⟨o, 1, none⟩) hrbo _, _, lv ++ [x'], hF1, ?_, by rw [List.length_append, List.length_append, HLV.out]; rfl, HX2.out _ _ _ _ w.drew _ _ (HB0.out.trans HB1.out) (by show w.heap.size ≤ _; omega) (by show o < w.heap.size; omega) ⟨_, HBOX1.out⟩ HX'.out HY.out hL4⟩
      have hh := HOW.out
      rw [show lv.length + 1 = (lv ++ [x']).length from by rw [List.length_append]; rfl] at hh ⊢
      refine own_at hh fun k hk => Below.heap_setCell _ _ _ _ (fun e => ?_)
      obtain ⟨_, _, cs, hc⟩ := El.typed hh k hk
      rw [e, HO3.out] at hc
      injection hc with hc
      injection hc with _ hc
      exact hbt hc
end Go.Proofs.Ytoaopjbgaehpfaa.G
