/- Texts of this claim, joined: words and laws that the others use. -/
import Derived.Test.YtoaopjbgaehpfaaQJo
section
/- wire's reader: what lays one more thing into a row. -/
namespace Go.Proofs.Ytoaopjbgaehpfaa.G
open Go.RowKit
attribute [local simp, local go_sem] alloc_drewN setCell_drewN
set_option linter.unusedVariables false
set_option linter.unusedSimpArgs false
set_option maxRecDepth 100000
/-- What laying one more element may change, besides what is new: the reader, the box, blocks of elements. -/
def Lay (g o : Nat) (T : TypeId) (W : World) (k : Nat) : Prop := k = g ∨ k = o ∨ ∃ cs, W.heap[k]? = some (.cells cs T (0, 0))
/-- Between two elements: the reader, the reader's box, the box with the row. -/
structure BoxInv (g : Nat) (A : Option Addr) (bs : List Int) (cp : Nat) (d : Int) (w0 : World) (rb o : Nat) (bt : TypeId) (cs0 : Array Value) (off : Nat) {T Ts : TypeId} {α σ : Type} (E : El Try.prog T Ts α) (X : List σ → List α → World → Prop) (a : Nat) (l : List σ) (W : World) : Prop where
  rdr : Rdr g A bs cp d a W
  but : But (One g) w0 W
  rbx : W.heap[rb]? = some (.cells #[.pointer (some ⟨g, 0, none⟩)] 70 (0, 0))
  box : ∃ v lv, W.heap[o]? = some (.cells (cs0.setIfInBounds off v) bt (0, 0)) ∧ E.Own W w0.heap.size v lv ∧ lv.length = l.length ∧ X l lv W
def BadR (g : Nat) (A : Option Addr) (bs : List Int) (cp : Nat) (d : Int) (w0 : World) (a : Nat) (W : World) : Prop := RdIn g A bs.length cp (a : Int) ((a : Int) + d) W ∧ But (One g) w0 W
theorem RPost.ok {g : Nat} {A : Option Addr} {bs : List Int} {cp : Nat} {d : Int} {w : World} {S : Nat → Prop} {α : Type} {x : α} {a : Nat} {okE : α → Ending → World → Prop} {e : Ending} {w' : World} (h : RPost g A bs cp d w S (.inr (x, a)) okE e w') : But S w w' ∧ okE x e w' ∧ RdIn g A bs.length cp (a : Int) ((a : Int) + d) w' := h
theorem RPost.no {g : Nat} {A : Option Addr} {bs : List Int} {cp : Nat} {d : Int} {w : World} {S : Nat → Prop} {α : Type} {c : Int} {a : Nat} {okE : α → Ending → World → Prop} {e : Ending} {w' : World} (h : RPost g A bs cp d w S (.inl (c, a) : RR α) okE e w') : But S w w' ∧ e = .panicked [stopE c] ∧ RdIn g A bs.length cp (a : Int) ((a : Int) + d) w' := h
theorem El.typed {P : Program} {T Ts : TypeId} {α : Type} {E : El P T Ts α} {W : World} {base : Nat} {v : Value} {l : List α} (h : E.Own W base v l) : ∀ k, v.ownBlock = some k → base ≤ k ∧ k < W.heap.size ∧ ∃ cs, W.heap[k]? = some (.cells cs T (0, 0)) := by
  intro k hk
  rcases h.2 with ⟨hv, _⟩ | ⟨b, cap, cur, hv, hb, hh, _⟩
  · rw [hv] at hk; cases hk
  · rw [hv] at hk
    injection hk with hk
    change b = k at hk
    subst hk
    exact ⟨hb, lt_of_block hh, cur, hh⟩
theorem Lay.no {g o : Nat} {T t : TypeId} {W : World} {k : Nat} {cs : Array Value} (hg : k ≠ g) (ho : k ≠ o) (hc : W.heap[k]? = some (.cells cs t (0, 0))) (ht : t ≠ T) : ¬ Lay g o T W k := by
  rintro (h | h | ⟨cs', h⟩)
  · exact hg h
  · exact ho h
  · rw [hc] at h
    injection h with h
    injection h with _ h
    exact ht h
theorem Rdr.moved {g : Nat} {A : Option Addr} {bs : List Int} {cp : Nat} {d : Int} {a base : Nat} {w w' : World} {S : Nat → Prop} (h : Rdr g A bs cp d a w) (hb : But S w w') (hS : ∀ k, k < base → ¬ S k) (hg : g < base) (hA : ∀ ad, A = some ad → ad.block < base) : Rdr g A bs cp d a w' :=
  ⟨(hb.block g h.lt (hS g hg)).trans h.rd, fun i hi => by
    obtain ⟨ad, h1, h2, h3⟩ := h.far i hi
    exact ⟨ad, h1, hb.cell_some h2 (by rw [addr_blk]; exact hS _ (hA ad h1)), h3⟩, h.le⟩
theorem setSame {cs : Array Value} {i : Nat} {u v : Value} : (cs.setIfInBounds i u).setIfInBounds i v = cs.setIfInBounds i v := by simp
def psE : El Try.prog 79 56 (Int × Int) where
  enc q := [.int .i64 q.1, .int .i64 q.2]
  sz := 2
  wd := 16
  zero := .agg #[.int .i64 0, .int .i64 0]
  hpos := by decide
  henc _ := rfl
  hone q u hu := by
    simp only [List.mem_cons, List.not_mem_nil, or_false] at hu
    rcases hu with rfl | rfl <;> rfl
  hi := by kernel_rfl
  hzs := rfl
  hu := Try.underlying56

set_option maxHeartbeats 4000000 in
theorem ruleStep {σ : Type} {g : Nat} {A : Option Addr} {bs : List Int} {cp : Nat} {d : Int} {w0 : World} {rb o : Nat} {cs0 : Array Value} {X : List σ → List (Int × Int) → World → Prop} {a : Nat} {l : List σ} {w : World} (f : Nat → RR σ) (Y : World → σ → (Int × Int) → World → Prop)
    (h : BoxInv g A bs cp d w0 rb o 58 cs0 0 psE X a l w) (hl : l.length < 268435456) (hcs : 0 < cs0.size) (ho : w0.heap.size ≤ o) (hgw : g < w0.heap.size) (hAo : ∀ ad, A = some ad → ad.block < w0.heap.size) (hbt : 58 ≠ 79)
    (hcall : ∀ W, Rdr g A bs cp d a W → Calls Try.prog 71 #[.pointer (some ⟨g, 0, none⟩)] W (RPost g A bs cp d W (One g) (f a) fun x e W' => ∃ x', e = .returned (.agg #[.int .i64 x'.1, .int .i64 x'.2]) ∧ Y W x x' W'))
    (hle : ∀ x a', f a = .inr (x, a') → a' ≤ bs.length)
    (hX1 : ∀ ls lv W W', But (One g) W W' → X ls lv W → X ls lv W')
    (hX2 : ∀ ls lv x x' W0 W W', But (One g) w0 W → W0.heap.size ≤ W.heap.size → o < W0.heap.size → (∃ cs, W.heap[o]? = some (.cells cs 58 (0, 0))) → X ls lv W → Y W0 x x' W → But (Lay g o 79 W) W W' → X (ls ++ [x]) (lv ++ [x']) W') :
    Calls Try.prog 70 #[.pointer (some ⟨o, 0, none⟩), .pointer (some ⟨rb, 0, none⟩)] w (OnePost (BadR g A bs cp d w0) (BoxInv g A bs cp d w0 rb o 58 cs0 0 psE X) l (f a)) := by
  obtain ⟨v, lv, hbox, hown, hlv, hx⟩ := h.box
  have hrd := h.rdr
  have hbt0 := h.but
  have hog : o ≠ g := by omega
  have hrb := h.rbx
  have q0 : w.cell? ⟨o, 0, none⟩ = some v := by
    rw [cell_of_row w o 0 _ _ _ hbox]
    simp [hcs]
  have q1 : w.cell? ⟨rb, 0, none⟩ = some (.pointer (some ⟨g, 0, none⟩)) := blkcell hrb 0 (by simp)
  have HBOX := Lib.hid hbox
  have HOWN := Lib.hid hown
  have HX := Lib.hid hx
  have HRD := Lib.hid hrd
  have HB0 := Lib.hid hbt0
  have HRB := Lib.hid hrb
  have hlvl : lv.length < 268435456 := by omega
  have HLV := Lib.hid hlv
  have hsz0 := hbt0.size
  have hol := lt_of_block hbox
  have hrbl := lt_of_block hrb
  have hrbo : rb ≠ o := by
    intro e
    rw [e, hbox] at hrb
    injection hrb with hrb
    injection hrb with _ h2
    exact absurd h2 (by decide)
  have hrbg : rb ≠ g := by
    intro e
    have h1 := hrd.rd
    unfold RdIn at h1
    rw [← e, hrb] at h1
    injection h1 with h1
    injection h1 with _ h2
    exact absurd h2 (by decide)
  have HCALL := Lib.hid hcall
  have HX1 := Lib.hid hX1
  have HX2 := Lib.hid hX2
  obtain ⟨r, hr⟩ : ∃ r, f a = r := ⟨_, rfl⟩
  have HLE := Lib.hid hle
  rw [hr] at HCALL HLE ⊢
  obtain ⟨Av, nv, cv, hv⟩ : ∃ A n c, v = Value.slice A n c := (by obtain ⟨A, c, h⟩ := hown.slice; exact ⟨A, _, c, h⟩)
  subst hv
  clear h hbox hown hx hrd hbt0 hrb hcall hX1 hX2 hlv hr hle
  go_enter Try.func70, Try.ntmps70
  go_wp2_with fail
  refine wp_region_held_drew (S := fun w' => w'.cell? ⟨rb, 0, none⟩ = some (.pointer (some ⟨g, 0, none⟩))) (by kernel_rfl) q1 (fun hS => ?_)
  refine takeE 0 (some 2) rfl rfl (fun w e1 => by go_simp <;> (with_reducible rfl)) hS ?_
  simp only [putS]
  refine takeE 2 (some 4) rfl rfl (fun w e1 => by go_simp <;> (with_reducible rfl)) hS ?_
  simp only [putS]
  refine wpAnyH_ready (rs := [1, 3]) (by kernel_rfl) (by simp) (AllReadyH.cons rfl (fun A1 hA1 => ?_) (AllReadyH.cons rfl (fun A2 hA2 => ?_) AllReadyH.nil))
  · skip
    rw [if_pos (by kernel_rfl)]
    go_simp
    refine hA1.out _ _ (q1) (fun hS => ?_)
    try simp only [putS, List.getElem_toArray, List.getElem_cons_zero, List.getElem_cons_succ]
    refine wpAnyH_ready (rs := [3]) (by kernel_rfl) (by simp) (AllReadyH.cons rfl (fun C1 hC1 => ?_) AllReadyH.nil)
    rw [if_pos (by kernel_rfl)]
    go_simp
    go_at_call 71
    refine (HCALL.out _ (show Rdr g A bs cp d a w.drew from ⟨HRD.out.rd, HRD.out.far, HRD.out.le⟩)).mono ?_
    intro e w1 hpost
    rcases r with ⟨c, a2⟩ | ⟨x, a2⟩
    · obtain ⟨hb1, rfl, hr1⟩ := hpost.no
      exact ⟨rfl, rfl, hr1, (HB0.out.drew).trans_ hb1 (fun k hk e => e)⟩
    obtain ⟨hb1, ⟨x', rfl, hy⟩, hr1⟩ := hpost.ok
    have hb1' : But (One g) w w1 := ((But.refl (One g) w).drew).trans_ hb1 (fun k hk e => e)
    have HB1 := Lib.hid hb1'
    have HY := Lib.hid hy
    have HR1 := Lib.hid (show Rdr g A bs cp d a2 w1 from HRD.out.next hb1' hr1 (HLE.out x a2 rfl))
    have hs0 : w1.cell? ⟨o, 0, none⟩ = some (.slice Av nv cv) := hb1'.cell_some q0 hog
    have hs1 : w1.cell? ⟨rb, 0, none⟩ = some (.pointer (some ⟨g, 0, none⟩)) := hb1'.cell_some q1 hrbg
    have HBOX1 := Lib.hid ((hb1'.block o hol hog).trans HBOX.out)
    have HRB1 := Lib.hid ((hb1'.block rb hrbl hrbg).trans HRB.out)
    have HOWN1 := Lib.hid (HOWN.out.but hb1' (fun k h1 h2 (e : k = g) => by omega))
    have HX' := Lib.hid (HX1.out _ _ _ _ hb1' HX.out)
    have hsz1 := hb1'.size
    have HTY := Lib.hid (El.typed HOWN1.out)
    have hrdl := HR1.out.lt
    have hne1 : ¬ w1.heap.size = o := by omega
    have hne2 : ¬ w1.heap.size = rb := by omega
    clear hb1 hb1' hy hr1 hpost hS
    simp only []
    refine hC1.out _ _ hs1 (fun hS => ?_)
    try simp only [putS, List.getElem_toArray, List.getElem_cons_zero, List.getElem_cons_succ]
    refine wpAnyH_ready (rs := [4]) (by kernel_rfl) (by simp) (AllReadyH.cons rfl (fun D1 hD1 => ?_) AllReadyH.nil)
    rw [if_pos (by kernel_rfl)]
    go_simp
    have hAs : But No w1 (w1.alloc (.cells #[.int .i64 x'.1, .int .i64 x'.2] 79)) := (But.refl No w1).alloc _
    refine hD1.out _ _ (hAs.cell_some hs1 (fun c => c)) (fun hS => ?_)
    try simp only [putS, List.getElem_toArray, List.getElem_cons_zero, List.getElem_cons_succ]
    clear hs0 hs1 q0 q1
    refine wpAnyH_ready (rs := [5]) (by kernel_rfl) (by simp) (AllReadyH.cons rfl (fun K5 hK5 => ?_) AllReadyH.nil)
    refine psE.step1 rfl _ _ rfl rfl w0.heap.size (.slice Av nv cv) lv rfl (HOWN1.out.alloc _) w1.heap.size x' #[.int .i64 x'.1, .int .i64 x'.2] rfl rfl (heap_alloc_new w1 _) (by show (lv.length + 1) * (16 + 1) ≤ _; omega) (by simp; omega) ?_
    intro g2 c2 w3 hown hgrow
    have hno : some o ≠ (Value.slice Av nv cv).ownBlock := fun e => by
      obtain ⟨_, _, cs, hc⟩ := HTY.out o e.symm
      rw [HBOX1.out] at hc
      injection hc with hc
      injection hc with _ hc
      exact hbt hc
    have hnr : some rb ≠ (Value.slice Av nv cv).ownBlock := fun e => by
      obtain ⟨_, _, cs, hc⟩ := HTY.out rb e.symm
      rw [HRB1.out] at hc
      injection hc with hc
      injection hc with _ hc
      exact absurd hc (by decide)
    have HO3 := Lib.hid ((hgrow.block o (by simp; omega) hno).trans (blkold HBOX1.out (.cells #[.int .i64 x'.1, .int .i64 x'.2] 79)))
    have HR3 := Lib.hid ((hgrow.block rb (by simp; omega) hnr).trans (blkold HRB1.out (.cells #[.int .i64 x'.1, .int .i64 x'.2] 79)))
    have hB3 : But (Lay g o 79 w1) w1 w3 := ((But.refl (Lay g o 79 w1) w1).alloc (.cells #[.int .i64 x'.1, .int .i64 x'.2] 79)).grown hgrow (fun k hk => .inl (.inr (.inr (HTY.out k hk).2.2)))
    have hG3 : But (fun k => w0.heap.size ≤ k) w1 w3 := ((But.refl (fun k => w0.heap.size ≤ k) w1).alloc (.cells #[.int .i64 x'.1, .int .i64 x'.2] 79)).grown hgrow (fun k hk => .inl (HTY.out k hk).1)
    have q0 : w3.cell? ⟨o, 0, none⟩ = some (.slice Av nv cv) := by
      rw [cell_of_row w3 o 0 _ _ _ HO3.out]
      simp [hcs]
    have q1 : w3.cell? ⟨rb, 0, none⟩ = some (.pointer (some ⟨g, 0, none⟩)) := blkcell HR3.out 0 (by simp)
    have qf : w3.frozen? ⟨o, 0, none⟩ = false := blkfree HO3.out 0
    have HOW := Lib.hid hown
    have HB3 := Lib.hid hB3
    have HG3 := Lib.hid hG3
    clear hown hgrow hno hnr hB3 hG3
    refine hK5.out _ _ q1 (fun hS => ?_)
    try simp only [putS, List.getElem_toArray, List.getElem_cons_zero, List.getElem_cons_succ]
    refine takeE 6 (some 8) rfl rfl (fun w e1 => by go_simp <;> (with_reducible rfl)) hS ?_
    simp only [putS]
    refine wpAnyH_ready (rs := [7]) (by kernel_rfl) (by simp) (AllReadyH.cons rfl (fun K7 hK7 => ?_) AllReadyH.nil)
    rw [if_pos (by kernel_rfl)]
    go_simp
    have hrbo' : ¬ o = rb := fun e => hrbo e.symm
    refine hK7.out _ _ (by go_simp) (fun hS => ?_)
    try simp only [putS, List.getElem_toArray, List.getElem_cons_zero, List.getElem_cons_succ]
    refine wpAnyH_done (by kernel_rfl) ?_ _
    go_wp2_with fail
    go_end0
    have hF1 := blkset HO3.out 0 (.slice (some ⟨g2, 0, none⟩) (lv.length + 1) c2)
    rw [setSame] at hF1
    have hL4 := HB3.out.setCell (p := ⟨o, 0, none⟩) (.inl (.inr (.inl rfl))) (.slice (some ⟨g2, 0, none⟩) (lv.length + 1) c2)
    have hG4 := HG3.out.setCell (p := ⟨o, 0, none⟩) (.inl ho) (.slice (some ⟨g2, 0, none⟩) (lv.length + 1) c2)
    refine ⟨rfl, HR1.out.moved hG4 (fun k hk h => by omega) hgw hAo, (HB0.out.trans HB1.out).trans_ hG4 (fun k hk h => by omega), blkfar HR3.out (p := ⟨o, 0, none⟩) hrbo _, _, lv ++ [x'], hF1, ?_, by rw [List.length_append, List.length_append, HLV.out]; rfl, HX2.out _ _ _ _ w.drew _ _ (HB0.out.trans HB1.out) (by show w.heap.size ≤ _; omega) (by show o < w.heap.size; omega) ⟨_, HBOX1.out⟩ HX'.out HY.out hL4⟩
    have hh := HOW.out
    rw [show lv.length + 1 = (lv ++ [x']).length from by rw [List.length_append]; rfl] at hh ⊢
    refine own_at hh fun k hk => Below.heap_setCell _ _ _ _ (fun e => ?_)
    obtain ⟨_, _, cs, hc⟩ := El.typed hh k hk
    rw [e, HO3.out] at hc
    injection hc with hc
    injection hc with _ hc
    exact hbt hc
  · skip
    rw [if_pos (by kernel_rfl)]
    go_simp
    go_at_call 71
    refine (HCALL.out _ (show Rdr g A bs cp d a w.drew from ⟨HRD.out.rd, HRD.out.far, HRD.out.le⟩)).mono ?_
    intro e w1 hpost
    rcases r with ⟨c, a2⟩ | ⟨x, a2⟩
    · obtain ⟨hb1, rfl, hr1⟩ := hpost.no
      exact ⟨rfl, rfl, hr1, (HB0.out.drew).trans_ hb1 (fun k hk e => e)⟩
    obtain ⟨hb1, ⟨x', rfl, hy⟩, hr1⟩ := hpost.ok
    have hb1' : But (One g) w w1 := ((But.refl (One g) w).drew).trans_ hb1 (fun k hk e => e)
    have HB1 := Lib.hid hb1'
    have HY := Lib.hid hy
    have HR1 := Lib.hid (show Rdr g A bs cp d a2 w1 from HRD.out.next hb1' hr1 (HLE.out x a2 rfl))
    have hs0 : w1.cell? ⟨o, 0, none⟩ = some (.slice Av nv cv) := hb1'.cell_some q0 hog
    have hs1 : w1.cell? ⟨rb, 0, none⟩ = some (.pointer (some ⟨g, 0, none⟩)) := hb1'.cell_some q1 hrbg
    have HBOX1 := Lib.hid ((hb1'.block o hol hog).trans HBOX.out)
    have HRB1 := Lib.hid ((hb1'.block rb hrbl hrbg).trans HRB.out)
    have HOWN1 := Lib.hid (HOWN.out.but hb1' (fun k h1 h2 (e : k = g) => by omega))
    have HX' := Lib.hid (HX1.out _ _ _ _ hb1' HX.out)
    have hsz1 := hb1'.size
    have HTY := Lib.hid (El.typed HOWN1.out)
    have hrdl := HR1.out.lt
    have hne1 : ¬ w1.heap.size = o := by omega
    have hne2 : ¬ w1.heap.size = rb := by omega
    clear hb1 hb1' hy hr1 hpost hS
    simp only []
    refine hA2.out _ _ hs1 (fun hS => ?_)
    try simp only [putS, List.getElem_toArray, List.getElem_cons_zero, List.getElem_cons_succ]
    refine wpAnyH_ready (rs := [1, 4]) (by kernel_rfl) (by simp) (AllReadyH.cons rfl (fun D1 hD1 => ?_) (AllReadyH.cons rfl (fun D2 hD2 => ?_) AllReadyH.nil))
    · skip
      rw [if_pos (by kernel_rfl)]
      go_simp
      refine hD1.out _ _ (hs1) (fun hS => ?_)
      try simp only [putS, List.getElem_toArray, List.getElem_cons_zero, List.getElem_cons_succ]
      refine wpAnyH_ready (rs := [4]) (by kernel_rfl) (by simp) (AllReadyH.cons rfl (fun F1 hF1 => ?_) AllReadyH.nil)
      rw [if_pos (by kernel_rfl)]
      go_simp
      have hAs : But No w1 (w1.alloc (.cells #[.int .i64 x'.1, .int .i64 x'.2] 79)) := (But.refl No w1).alloc _
      refine hF1.out _ _ (hAs.cell_some hs1 (fun c => c)) (fun hS => ?_)
      try simp only [putS, List.getElem_toArray, List.getElem_cons_zero, List.getElem_cons_succ]
      clear hs0 hs1 q0 q1
      refine wpAnyH_ready (rs := [5]) (by kernel_rfl) (by simp) (AllReadyH.cons rfl (fun K5 hK5 => ?_) AllReadyH.nil)
      refine psE.step1 rfl _ _ rfl rfl w0.heap.size (.slice Av nv cv) lv rfl (HOWN1.out.alloc _) w1.heap.size x' #[.int .i64 x'.1, .int .i64 x'.2] rfl rfl (heap_alloc_new w1 _) (by show (lv.length + 1) * (16 + 1) ≤ _; omega) (by simp; omega) ?_
      intro g2 c2 w3 hown hgrow
      have hno : some o ≠ (Value.slice Av nv cv).ownBlock := fun e => by
        obtain ⟨_, _, cs, hc⟩ := HTY.out o e.symm
        rw [HBOX1.out] at hc
        injection hc with hc
        injection hc with _ hc
        exact hbt hc
      have hnr : some rb ≠ (Value.slice Av nv cv).ownBlock := fun e => by
        obtain ⟨_, _, cs, hc⟩ := HTY.out rb e.symm
        rw [HRB1.out] at hc
        injection hc with hc
        injection hc with _ hc
        exact absurd hc (by decide)
      have HO3 := Lib.hid ((hgrow.block o (by simp; omega) hno).trans (blkold HBOX1.out (.cells #[.int .i64 x'.1, .int .i64 x'.2] 79)))
      have HR3 := Lib.hid ((hgrow.block rb (by simp; omega) hnr).trans (blkold HRB1.out (.cells #[.int .i64 x'.1, .int .i64 x'.2] 79)))
      have hB3 : But (Lay g o 79 w1) w1 w3 := ((But.refl (Lay g o 79 w1) w1).alloc (.cells #[.int .i64 x'.1, .int .i64 x'.2] 79)).grown hgrow (fun k hk => .inl (.inr (.inr (HTY.out k hk).2.2)))
      have hG3 : But (fun k => w0.heap.size ≤ k) w1 w3 := ((But.refl (fun k => w0.heap.size ≤ k) w1).alloc (.cells #[.int .i64 x'.1, .int .i64 x'.2] 79)).grown hgrow (fun k hk => .inl (HTY.out k hk).1)
      have q0 : w3.cell? ⟨o, 0, none⟩ = some (.slice Av nv cv) := by
        rw [cell_of_row w3 o 0 _ _ _ HO3.out]
        simp [hcs]
      have q1 : w3.cell? ⟨rb, 0, none⟩ = some (.pointer (some ⟨g, 0, none⟩)) := blkcell HR3.out 0 (by simp)
      have qf : w3.frozen? ⟨o, 0, none⟩ = false := blkfree HO3.out 0
      have HOW := Lib.hid hown
      have HB3 := Lib.hid hB3
      have HG3 := Lib.hid hG3
      clear hown hgrow hno hnr hB3 hG3
      refine hK5.out _ _ q1 (fun hS => ?_)
      try simp only [putS, List.getElem_toArray, List.getElem_cons_zero, List.getElem_cons_succ]
      refine takeE 6 (some 8) rfl rfl (fun w e1 => by go_simp <;> (with_reducible rfl)) hS ?_
      simp only [putS]
      refine wpAnyH_ready (rs := [7]) (by kernel_rfl) (by simp) (AllReadyH.cons rfl (fun K7 hK7 => ?_) AllReadyH.nil)
      rw [if_pos (by kernel_rfl)]
      go_simp
      have hrbo' : ¬ o = rb := fun e => hrbo e.symm
      refine hK7.out _ _ (by go_simp) (fun hS => ?_)
      try simp only [putS, List.getElem_toArray, List.getElem_cons_zero, List.getElem_cons_succ]
      refine wpAnyH_done (by kernel_rfl) ?_ _
      go_wp2_with fail
      go_end0
      have hF1 := blkset HO3.out 0 (.slice (some ⟨g2, 0, none⟩) (lv.length + 1) c2)
      rw [setSame] at hF1
      have hL4 := HB3.out.setCell (p := ⟨o, 0, none⟩) (.inl (.inr (.inl rfl))) (.slice (some ⟨g2, 0, none⟩) (lv.length + 1) c2)
      have hG4 := HG3.out.setCell (p := ⟨o, 0, none⟩) (.inl ho) (.slice (some ⟨g2, 0, none⟩) (lv.length + 1) c2)
      refine ⟨rfl, HR1.out.moved hG4 (fun k hk h => by omega) hgw hAo, (HB0.out.trans HB1.out).trans_ hG4 (fun k hk h => by omega), blkfar HR3.out (p := ⟨o, 0, none⟩) hrbo _, _, lv ++ [x'], hF1, ?_, by rw [List.length_append, List.length_append, HLV.out]; rfl, HX2.out _ _ _ _ w.drew _ _ (HB0.out.trans HB1.out) (by show w.heap.size ≤ _; omega) (by show o < w.heap.size; omega) ⟨_, HBOX1.out⟩ HX'.out HY.out hL4⟩
      have hh := HOW.out
      rw [show lv.length + 1 = (lv ++ [x']).length from by rw [List.length_append]; rfl] at hh ⊢
      refine own_at hh fun k hk => Below.heap_setCell _ _ _ _ (fun e => ?_)
      obtain ⟨_, _, cs, hc⟩ := El.typed hh k hk
      rw [e, HO3.out] at hc
      injection hc with hc
      injection hc with _ hc
      exact hbt hc
    · skip
      rw [if_pos (by kernel_rfl)]
      go_simp
      have hAs : But No w1 (w1.alloc (.cells #[.int .i64 x'.1, .int .i64 x'.2] 79)) := (But.refl No w1).alloc _
      refine hD2.out _ _ (hAs.cell_some hs1 (fun c => c)) (fun hS => ?_)
      try simp only [putS, List.getElem_toArray, List.getElem_cons_zero, List.getElem_cons_succ]
      refine wpAnyH_ready (rs := [1]) (by kernel_rfl) (by simp) (AllReadyH.cons rfl (fun F1 hF1 => ?_) AllReadyH.nil)
      have hs0' := hAs.cell_some hs0 (fun c => c)
      rw [if_pos (by kernel_rfl)]
      go_simp
      refine hF1.out _ _ (hAs.cell_some hs1 (fun c => c)) (fun hS => ?_)
      try simp only [putS, List.getElem_toArray, List.getElem_cons_zero, List.getElem_cons_succ]
      clear hs0'
      clear hs0 hs1 q0 q1
      refine wpAnyH_ready (rs := [5]) (by kernel_rfl) (by simp) (AllReadyH.cons rfl (fun K5 hK5 => ?_) AllReadyH.nil)
      refine psE.step1 rfl _ _ rfl rfl w0.heap.size (.slice Av nv cv) lv rfl (HOWN1.out.alloc _) w1.heap.size x' #[.int .i64 x'.1, .int .i64 x'.2] rfl rfl (heap_alloc_new w1 _) (by show (lv.length + 1) * (16 + 1) ≤ _; omega) (by simp; omega) ?_
      intro g2 c2 w3 hown hgrow
      have hno : some o ≠ (Value.slice Av nv cv).ownBlock := fun e => by
        obtain ⟨_, _, cs, hc⟩ := HTY.out o e.symm
        rw [HBOX1.out] at hc
        injection hc with hc
        injection hc with _ hc
        exact hbt hc
      have hnr : some rb ≠ (Value.slice Av nv cv).ownBlock := fun e => by
        obtain ⟨_, _, cs, hc⟩ := HTY.out rb e.symm
        rw [HRB1.out] at hc
        injection hc with hc
        injection hc with _ hc
        exact absurd hc (by decide)
      have HO3 := Lib.hid ((hgrow.block o (by simp; omega) hno).trans (blkold HBOX1.out (.cells #[.int .i64 x'.1, .int .i64 x'.2] 79)))
      have HR3 := Lib.hid ((hgrow.block rb (by simp; omega) hnr).trans (blkold HRB1.out (.cells #[.int .i64 x'.1, .int .i64 x'.2] 79)))
      have hB3 : But (Lay g o 79 w1) w1 w3 := ((But.refl (Lay g o 79 w1) w1).alloc (.cells #[.int .i64 x'.1, .int .i64 x'.2] 79)).grown hgrow (fun k hk => .inl (.inr (.inr (HTY.out k hk).2.2)))
      have hG3 : But (fun k => w0.heap.size ≤ k) w1 w3 := ((But.refl (fun k => w0.heap.size ≤ k) w1).alloc (.cells #[.int .i64 x'.1, .int .i64 x'.2] 79)).grown hgrow (fun k hk => .inl (HTY.out k hk).1)
      have q0 : w3.cell? ⟨o, 0, none⟩ = some (.slice Av nv cv) := by
        rw [cell_of_row w3 o 0 _ _ _ HO3.out]
        simp [hcs]
      have q1 : w3.cell? ⟨rb, 0, none⟩ = some (.pointer (some ⟨g, 0, none⟩)) := blkcell HR3.out 0 (by simp)
      have qf : w3.frozen? ⟨o, 0, none⟩ = false := blkfree HO3.out 0
      have HOW := Lib.hid hown
      have HB3 := Lib.hid hB3
      have HG3 := Lib.hid hG3
      clear hown hgrow hno hnr hB3 hG3
      refine hK5.out _ _ q1 (fun hS => ?_)
      try simp only [putS, List.getElem_toArray, List.getElem_cons_zero, List.getElem_cons_succ]
      refine takeE 6 (some 8) rfl rfl (fun w e1 => by go_simp <;> (with_reducible rfl)) hS ?_
      simp only [putS]
      refine wpAnyH_ready (rs := [7]) (by kernel_rfl) (by simp) (AllReadyH.cons rfl (fun K7 hK7 => ?_) AllReadyH.nil)
      rw [if_pos (by kernel_rfl)]
      go_simp
      have hrbo' : ¬ o = rb := fun e => hrbo e.symm
      refine hK7.out _ _ (by go_simp) (fun hS => ?_)
      try simp only [putS, List.getElem_toArray, List.getElem_cons_zero, List.getElem_cons_succ]
      refine wpAnyH_done (by kernel_rfl) ?_ _
      go_wp2_with fail
      go_end0
      have hF1 := blkset HO3.out 0 (.slice (some ⟨g2, 0, none⟩) (lv.length + 1) c2)
      rw [setSame] at hF1
      have hL4 := HB3.out.setCell (p := ⟨o, 0, none⟩) (.inl (.inr (.inl rfl))) (.slice (some ⟨g2, 0, none⟩) (lv.length + 1) c2)
      have hG4 := HG3.out.setCell (p := ⟨o, 0, none⟩) (.inl ho) (.slice (some ⟨g2, 0, none⟩) (lv.length + 1) c2)
      refine ⟨rfl, HR1.out.moved hG4 (fun k hk h => by omega) hgw hAo, (HB0.out.trans HB1.out).trans_ hG4 (fun k hk h => by omega), blkfar HR3.out (p := ⟨o, 0, none⟩) hrbo _, _, lv ++ [x'], hF1, ?_, by rw [List.length_append, List.length_append, HLV.out]; rfl, HX2.out _ _ _ _ w.drew _ _ (HB0.out.trans HB1.out) (by show w.heap.size ≤ _; omega) (by show o < w.heap.size; omega) ⟨_, HBOX1.out⟩ HX'.out HY.out hL4⟩
      have hh := HOW.out
      rw [show lv.length + 1 = (lv ++ [x']).length from by rw [List.length_append]; rfl] at hh ⊢
      refine own_at hh fun k hk => Below.heap_setCell _ _ _ _ (fun e => ?_)
      obtain ⟨_, _, cs, hc⟩ := El.typed hh k hk
      rw [e, HO3.out] at hc
      injection hc with hc
      injection hc with _ hc
      exact hbt hc
end Go.Proofs.Ytoaopjbgaehpfaa.G
end
section
/- wire's reader: a rule. -/
namespace Go.Proofs.Ytoaopjbgaehpfaa.G
open Go.RowKit
attribute [local simp, local go_sem] alloc_drewN setCell_drewN
set_option linter.unusedVariables false
set_option linter.unusedSimpArgs false
set_option maxRecDepth 100000
def ruleR (bs : List Int) (a : Nat) : RR (List (Int × Int) × Int) := rbind (numberR bs a) fun wh a' => rbind (rowsR bs (stepR bs) a') fun code a'' => .inr ((code, wh), a'')
theorem rbind_in {α β : Type} {r : RR α} {f : α → Nat → RR β} {y : β} {b : Nat} (h : rbind r f = .inr (y, b)) : ∃ x a, r = .inr (x, a) ∧ f x a = .inr (y, b) := by
  rcases r with ⟨c, a⟩ | ⟨x, a⟩
  · cases h
  · exact ⟨x, a, rfl, h⟩
theorem stepR_in {bs : List Int} (hB : Bytes bs) {a : Nat} {x : Int × Int} {a' : Nat} (h : stepR bs a = .inr (x, a')) : a < a' ∧ a' ≤ bs.length := by
  unfold stepR at h
  obtain ⟨c, a1, h1, h2⟩ := rbind_in h
  unfold byteR at h1
  by_cases hlt : a < bs.length
  · rw [if_pos hlt] at h1
    injection h1 with h1
    injection h1 with e1 e2
    subst e1 e2
    by_cases hk : 1 ≤ bs.getD a 0 ∧ bs.getD a 0 ≤ 13
    · rw [if_pos hk] at h2
      by_cases hs : saysB (bs.getD a 0) = true
      · rw [if_pos hs] at h2
        obtain ⟨n, a2, h3, h4⟩ := rbind_in h2
        have := numberR_in hB h3
        injection h4 with h4
        injection h4 with _ h4
        omega
      · rw [if_neg hs] at h2
        injection h2 with h2
        injection h2 with _ h2
        omega
    · rw [if_neg hk] at h2; cases h2
  · rw [if_neg hlt] at h1; cases h1
theorem RPost.imp {g : Nat} {A : Option Addr} {bs : List Int} {cp : Nat} {d : Int} {w : World} {S : Nat → Prop} {α : Type} {r : RR α} {okE okE' : α → Ending → World → Prop} {e : Ending} {w' : World} (h : RPost g A bs cp d w S r okE e w') (hi : ∀ x a, r = .inr (x, a) → But S w w' → okE x e w' → okE' x e w') : RPost g A bs cp d w S r okE' e w' := by
  rcases r with ⟨c, a⟩ | ⟨x, a⟩
  · exact h
  · obtain ⟨h1, h2, h3⟩ := h.ok
    exact ⟨h1, hi x a rfl h1 h2, h3⟩
theorem own_far {P : Program} {T Ts : TypeId} {α : Type} {E : El P T Ts α} {W : World} {base : Nat} {v : Value} {l : List α} (h : E.Own W base v l) {p : Addr} {cs : Array Value} {t : TypeId} (hp : W.heap[p.block]? = some (.cells cs t (0, 0))) (ht : t ≠ T) (u : Value) : E.Own (W.setCell p u) base v l :=
  own_at h fun k hk => Below.heap_setCell _ _ _ _ (fun e => by
    obtain ⟨_, _, cs', hc⟩ := El.typed h k hk
    rw [e, hp] at hc
    injection hc with hc
    injection hc with _ hc
    exact ht hc)
theorem own_lay {P : Program} {T Ts T' : TypeId} {α : Type} {E : El P T Ts α} {W W' : World} {base g o : Nat} {v : Value} {l : List α} (h : E.Own W base v l) (hb : But (Lay g o T' W) W W') (hT : T ≠ T') (hg : g < base) (ho : o < base ∨ ∃ cs t, W.heap[o]? = some (.cells cs t (0, 0)) ∧ t ≠ T) : E.Own W' base v l :=
  own_at h fun k hk => by
    obtain ⟨h1, h2, cs, hc⟩ := El.typed h k hk
    refine hb.block k h2 (Lay.no (by omega) (fun e => ?_) hc hT)
    rcases ho with ho | ⟨cs', t, ho, ht⟩
    · omega
    · rw [e, ho] at hc
      injection hc with hc
      injection hc with _ hc
      exact ht hc
def All2 {α β : Type} (R : α → β → Prop) : List α → List β → Prop
  | [], [] => True
  | a :: l, b :: m => R a b ∧ All2 R l m
  | _, _ => False
theorem All2.imp {α β : Type} {R R' : α → β → Prop} (h : ∀ a b, R a b → R' a b) : ∀ {l : List α} {m : List β}, All2 R l m → All2 R' l m
  | [], [], _ => trivial
  | a :: l, b :: m, hh => ⟨h a b hh.1, All2.imp h hh.2⟩
  | [], _ :: _, hh => hh
  | _ :: _, [], hh => hh
theorem All2.snoc {α β : Type} {R : α → β → Prop} {x : α} {y : β} (hx : R x y) : ∀ {l : List α} {m : List β}, All2 R l m → All2 R (l ++ [x]) (m ++ [y])
  | [], [], _ => ⟨hx, trivial⟩
  | a :: l, b :: m, hh => ⟨hh.1, All2.snoc hx hh.2⟩
  | [], _ :: _, hh => hh.elim
  | _ :: _, [], hh => hh.elim
/-- The rules that were read: each code in a row of its own. -/
def RulesDone (base : Nat) (ls : List (List (Int × Int) × Int)) (lv : List ((Option Addr × Nat × Nat) × Int)) (W : World) : Prop :=
  All2 (fun x x' => psE.Own W base (.slice x'.1.1 x'.1.2.1 x'.1.2.2) x.1 ∧ x'.2 = x.2) ls lv
def RuleX (t2 : Nat) (ls lv : List (Int × Int)) (W : World) : Prop := lv = ls ∧ W.heap[t2]? = some (.cells #[.slice none 0 0, .int .i64 0] 58 (0, 0))
theorem rowsRule {g : Nat} {A : Option Addr} {cp : Nat} {bs : List Int} {a : Nat} {d : Int} {w0 W : World} {rb o t2 : Nat} {wh : Int} (hr : Rdr g A bs cp d a W) (hB : Base A bs cp d) (hAo : ∀ ad, A = some ad → ad.block < w0.heap.size) (hbut : But (One g) w0 W) (hgw : g < w0.heap.size)
    (hrb : W.heap[rb]? = some (.cells #[.pointer (some ⟨g, 0, none⟩)] 70 (0, 0))) (ho : W.heap[o]? = some (.cells #[.slice none 0 0, .int .i64 wh] 58 (0, 0))) (hol : w0.heap.size ≤ o) (ht : W.heap[t2]? = some (.cells #[.slice none 0 0, .int .i64 0] 58 (0, 0))) (hto : t2 ≠ o) (htg : t2 ≠ g) (hrbg : rb ≠ g) (hog : o ≠ g) :
    Calls Try.prog 46 #[.pointer (some ⟨g, 0, none⟩), .func (.func 70) #[] #[.pointer (some ⟨o, 0, none⟩), .pointer (some ⟨rb, 0, none⟩)]] W
      (RowPost (BadR g A bs cp d w0) (BoxInv g A bs cp d w0 rb o 58 #[.slice none 0 0, .int .i64 wh] 0 psE (RuleX t2)) (rowsR bs (stepR bs) a)) := by
  refine rows1 hr.rd hr.far hB.bytes hr.le hB.dr 70 _ (stepR bs) _ _ (enters Try.func70 (by kernel_rfl) (by kernel_rfl)) ?_ ?_ ?_
  · intro a1 w1 hle hb1 hr1
    refine ⟨hr.next hb1 hr1 hle, hbut.trans hb1, (hb1.block rb (lt_of_block hrb) hrbg).trans hrb, .slice none 0 0, [], (hb1.block o (lt_of_block ho) hog).trans ho, El.own_nil _ _, rfl, rfl, (hb1.block t2 (lt_of_block ht) htg).trans ht⟩
  · intro a1 w1 hb1 hr1
    exact ⟨hr1, hbut.trans hb1⟩
  · intro a1 l w1 hl hinv
    refine ruleStep (stepR bs) (fun _ x x' _ => x' = x) hinv hl (by simp) hol hgw hAo (by decide) (fun W hW => (step0 hW hB).mono fun e W' hp => hp.imp fun x a2 _ _ he => ⟨x, he, rfl⟩) (fun x a' h => (stepR_in hB.bytes h).2) ?_ ?_
    · rintro ls lv W W' hb ⟨e, ht⟩
      exact ⟨e, (hb.block t2 (lt_of_block ht) htg).trans ht⟩
    · rintro ls lv x x' W0 W W' _ _ _ _ ⟨e, ht⟩ rfl hb
      exact ⟨by rw [e], (hb.block t2 (lt_of_block ht) (Lay.no htg hto ht (by decide))).trans ht⟩
set_option maxHeartbeats 4000000 in
theorem rule0 {g : Nat} {A : Option Addr} {cp : Nat} {bs : List Int} {at_ : Nat} {d : Int} {w : World} (h : Rdr g A bs cp d at_ w) (hB : Base A bs cp d) (hAo : ∀ ad, A = some ad → ad.block < w.heap.size) :
    Calls Try.prog 61 #[.pointer (some ⟨g, 0, none⟩)] w (RPost g A bs cp d w (One g) (ruleR bs at_) fun x e W' => ∃ x' : (Option Addr × Nat × Nat) × Int, e = .returned (.agg #[.slice x'.1.1 x'.1.2.1 x'.1.2.2, .int .i64 x'.2]) ∧ (psE.Own W' w.heap.size (.slice x'.1.1 x'.1.2.1 x'.1.2.2) x.1 ∧ x'.2 = x.2)) := by
  have hd := hB.dr
  have hgl := h.lt
  have H0 := Lib.hid ((h.alloc (.cells #[.pointer (some ⟨g, 0, none⟩)] 70)).alloc (.cells #[.slice none 0 0, .int .i64 0] 58))
  obtain ⟨T, hT⟩ : ∃ T, ruleR bs at_ = T := ⟨_, rfl⟩
  rw [hT]
  unfold ruleR at hT
  have HB := Lib.hid hB
  have HAO := Lib.hid hAo
  have HNM := Lib.hid (fun (W : World) (hW : Rdr g A bs cp d at_ W) => number0 hW.rd hW.far hB.bytes hW.le hd)
  obtain ⟨R, hR⟩ : ∃ R, numberR bs at_ = R := ⟨_, rfl⟩
  have hin := fun x a' (e : R = .inr (x, a')) => numberR_in hB.bytes (hR.trans e)
  rw [hR] at hT HNM
  have hmf : ∀ (fn : Fn) (first cap : Array Value) (w : World), (Instr.makeFunc fn first cap).run Try.prog w = .ok (.func fn first cap) w := fun _ _ _ _ => rfl
  have hrb0 := heap_alloc_new w (.cells #[.pointer (some ⟨g, 0, none⟩)] 70)
  have HRB0 := Lib.hid (blkold hrb0 (.cells #[.slice none 0 0, .int .i64 0] 58))
  have HT20 := Lib.hid (show ((w.alloc (.cells #[.pointer (some ⟨g, 0, none⟩)] 70)).alloc (.cells #[.slice none 0 0, .int .i64 0] 58)).heap[w.heap.size + 1]? = _ from heap_alloc2_newJ w _ _)
  clear h hR hB hAo hrb0
  rcases R with ⟨c, a'⟩ | ⟨wh, a1⟩
  · have E := Lib.hid (show T = .inl (c, a') from hT.symm)
    clear hT hin
    go_enter Try.func61, Try.ntmps61
    go_wp2_with (first | (go_at_call 59; refine (HNM.out _ H0.out).mono ?_; rintro e w1 ⟨hb1, rfl, hr1⟩; (have HR1 := Lib.hid hr1); (have HB1 := Lib.hid ((((But.refl (One g) w).alloc _).alloc _).trans hb1)); clear hb1 hr1))
    exact ⟨rfl, HB1.out, by rw [E.out]; exact ⟨rfl, HR1.out⟩⟩
  · have hin2 := hin wh a1 rfl
    have hT2 : rbind (rowsR bs (stepR bs) a1) (fun code a'' => (.inr ((code, wh), a'') : RR (List (Int × Int) × Int))) = T := hT
    clear hT hin
    obtain ⟨R2, hR2⟩ : ∃ R, rowsR bs (stepR bs) a1 = R := ⟨_, rfl⟩
    rw [hR2] at hT2
    have HR2 := Lib.hid hR2
    clear hR2
    rcases R2 with ⟨c, a'⟩ | ⟨code, a2⟩
    · have E := Lib.hid (show T = .inl (c, a') from hT2.symm)
      clear hT2
      go_enter Try.func61, Try.ntmps61
      go_wp2_with (first | (go_at_call 59; refine (HNM.out _ H0.out).mono ?_; rintro e w1 ⟨hb1, rfl, hr1⟩; (have hw1s : w.heap.size + 1 + 1 ≤ w1.heap.size := by (have := hb1.size; simp at this; omega)); (have hwn1 : ¬ w1.heap.size = w.heap.size := by omega); (have hwn2 : ¬ w1.heap.size = w.heap.size + 1 := by omega); (have HRB1 := Lib.hid ((hb1.block w.heap.size (by simp; omega) (by show ¬ w.heap.size = g; omega)).trans HRB0.out)); (have HT21 := Lib.hid ((hb1.block (w.heap.size + 1) (by simp) (by show ¬ w.heap.size + 1 = g; omega)).trans HT20.out)); (have qrb : w1.cell? ⟨w.heap.size, 0, none⟩ = some (.pointer (some ⟨g, 0, none⟩)) := blkcell HRB1.out 0 (by simp)); (have qrb2 : ∀ o1, (w1.alloc o1).cell? ⟨w.heap.size, 0, none⟩ = some (.pointer (some ⟨g, 0, none⟩)) := fun o1 => ((But.refl No w1).alloc o1).cell_some qrb (fun c => c)); (have HR1 := Lib.hid (H0.out.next hb1 hr1 hin2.2.2.2)); (have HB1 := Lib.hid ((((But.refl (One g) w).alloc _).alloc _).trans hb1)); clear hb1 hr1) | (go_at_call 46; refine (rowsRule (w0 := w) (HR1.out.alloc _) HB.out HAO.out (HB1.out.alloc _) hgl (blkold HRB1.out _) (heap_alloc_new w1 _) (by omega) (blkold HT21.out _) (by omega) (by omega) (by omega) (by omega)).mono ?_; rw [HR2.out]; intro e w2 hpost; obtain ⟨rfl, hr2, hb2⟩ := hpost; (have HRR := Lib.hid hr2); (have HBB := Lib.hid hb2); clear hr2 hb2))
      exact ⟨rfl, HBB.out, by rw [E.out]; exact ⟨rfl, HRR.out⟩⟩
    · have E := Lib.hid (show T = .inr ((code, wh), a2) from hT2.symm)
      clear hT2
      go_enter Try.func61, Try.ntmps61
      go_wp2_with (first | (go_at_call 59; refine (HNM.out _ H0.out).mono ?_; rintro e w1 ⟨hb1, rfl, hr1⟩; (have hw1s : w.heap.size + 1 + 1 ≤ w1.heap.size := by (have := hb1.size; simp at this; omega)); (have hwn1 : ¬ w1.heap.size = w.heap.size := by omega); (have hwn2 : ¬ w1.heap.size = w.heap.size + 1 := by omega); (have HRB1 := Lib.hid ((hb1.block w.heap.size (by simp; omega) (by show ¬ w.heap.size = g; omega)).trans HRB0.out)); (have HT21 := Lib.hid ((hb1.block (w.heap.size + 1) (by simp) (by show ¬ w.heap.size + 1 = g; omega)).trans HT20.out)); (have qrb : w1.cell? ⟨w.heap.size, 0, none⟩ = some (.pointer (some ⟨g, 0, none⟩)) := blkcell HRB1.out 0 (by simp)); (have qrb2 : ∀ o1, (w1.alloc o1).cell? ⟨w.heap.size, 0, none⟩ = some (.pointer (some ⟨g, 0, none⟩)) := fun o1 => ((But.refl No w1).alloc o1).cell_some qrb (fun c => c)); (have HR1 := Lib.hid (H0.out.next hb1 hr1 hin2.2.2.2)); (have HB1 := Lib.hid ((((But.refl (One g) w).alloc _).alloc _).trans hb1)); clear hb1 hr1) | (go_at_call 46; refine (rowsRule (w0 := w) (HR1.out.alloc _) HB.out HAO.out (HB1.out.alloc _) hgl (blkold HRB1.out _) (heap_alloc_new w1 _) (by omega) (blkold HT21.out _) (by omega) (by omega) (by omega) (by omega)).mono ?_; rw [HR2.out]; intro e w2 hpost; obtain ⟨rfl, hbi⟩ := hpost; (have HBI := Lib.hid hbi); obtain ⟨v, lv, hbox, hown, hlv, hlv2, ht2⟩ := hbi.box; subst hlv2; obtain ⟨Av, cv, hv⟩ := hown.slice; (obtain ⟨nv, hnv⟩ : ∃ n, lv.length = n := ⟨_, rfl⟩); rw [hnv] at hv; subst hv; simp only [List.setIfInBounds_toArray, List.set_cons_zero] at hbox; (have o0 : w2.cell? ⟨w1.heap.size, 0, none⟩ = some (.slice Av nv cv) := blkcell hbox 0 (by simp)); (have o1 : w2.cell? ⟨w1.heap.size, 1, none⟩ = some (.int .i64 wh) := blkcell hbox 1 (by simp)); (have t0 : w2.cell? ⟨w.heap.size + 1, 0, none⟩ = some (.slice none 0 0) := blkcell ht2 0 (by simp)); (have t1 : w2.cell? ⟨w.heap.size + 1, 1, none⟩ = some (.int .i64 0) := blkcell ht2 1 (by simp)); (have tf : ∀ i, w2.frozen? ⟨w.heap.size + 1, i, none⟩ = false := blkfree ht2); (have HBOX := Lib.hid hbox); (have HT2 := Lib.hid ht2); (have HOWN := Lib.hid hown); clear hbi hbox hown ht2 hlv hnv))
      have ht3 := blkset HT2.out 0 (.slice Av nv cv)
      have hfin := blkset ht3 1 (.int .i64 wh)
      simp only [List.setIfInBounds_toArray, List.set_cons_zero, List.set_cons_succ] at hfin
      refine bodyPost_ret (results_cell_row rfl _ _ (w.heap.size + 1) 58 #[.slice Av nv cv, .int .i64 wh] (0, 0) _ rfl hfin Try.underlying58 rfl (by kernel_rfl)) rfl ?_
      have hbf : But (One g) w w2 := HBI.out.but
      refine ⟨(hbf.setCell (p := ⟨w.heap.size + 1, 0, none⟩) (.inr (Nat.le_succ _)) _).setCell (p := ⟨w.heap.size + 1, 1, none⟩) (.inr (Nat.le_succ _)) _, ?_⟩
      rw [E.out]
      exact ⟨⟨((Av, nv, cv), wh), rfl, own_far (p := ⟨w.heap.size + 1, 1, none⟩) (own_far (p := ⟨w.heap.size + 1, 0, none⟩) HOWN.out HT2.out (by decide) _) ht3 (by decide) _, rfl⟩, blkfar (blkfar HBI.out.rdr.rd (p := ⟨w.heap.size + 1, 0, none⟩) (by show g ≠ w.heap.size + 1; omega) _) (p := ⟨w.heap.size + 1, 1, none⟩) (by show g ≠ w.heap.size + 1; omega) _⟩
end Go.Proofs.Ytoaopjbgaehpfaa.G
end
