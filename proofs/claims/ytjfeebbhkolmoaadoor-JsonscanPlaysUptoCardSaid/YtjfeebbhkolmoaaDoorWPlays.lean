/- Two pairs of scanners beside each other in an array: what a call on one leaves of both. -/
import Derived.Test.YtjfeebbhkolmoaaDoorWTells
import Derived.Test.YtjfeebbhkolmoaaDoorOps
namespace Go.Proofs.YtjfeebbhkolmoaaDoor
open Go.RowKit
set_option linter.unusedVariables false

def ptr (g : Nat) : Value := .pointer (some ⟨g, 0, none⟩)
/-- the two 'both' in block g -/
structure PSt (w0 w : World) (a : Nat → Addr) (g : Nat) (z : Int) (gt0 gr0 gt1 gr1 : Nat) (U0 U1 : Nat → Prop) : Prop where
  arr : Blk w g 29 #[ptr gt0, ptr gr0, ptr gt1, ptr gr1]
  p0 : ∃ p r, PairAt w a U0 gt0 gr0 p r ∧ p.size ≤ z
  p1 : ∃ p r, PairAt w a U1 gt1 gr1 p r ∧ p.size ≤ z
  n0 : ¬ U0 g
  n1 : ¬ U1 g
  dis : ∀ i, U0 i → ¬ U1 i
  ge0 : ∀ i, U0 i → w0.heap.size ≤ i
  ge1 : ∀ i, U1 i → w0.heap.size ≤ i
  gg : w0.heap.size ≤ g
  bel : Below w0.heap.size w0 w
section
variable {w0 w w' : World} {a : Nat → Addr} {g gt0 gr0 gt1 gr1 : Nat} {z : Int} {U0 U1 : Nat → Prop}
theorem PSt.b0 (h : PSt w0 w a g z gt0 gr0 gt1 gr1 U0 U1) : BothW w a U0 g 0 gt0 gr0 z := ⟨h.p0, h.arr.cell 0, h.arr.cell 1, h.n0⟩
theorem PSt.b1 (h : PSt w0 w a g z gt0 gr0 gt1 gr1 U0 U1) : BothW w a U1 g 2 gt1 gr1 z := ⟨h.p1, h.arr.cell 2, h.arr.cell 3, h.n1⟩
theorem PSt.mono {z' : Int} (h : PSt w0 w a g z gt0 gr0 gt1 gr1 U0 U1) (hz : z ≤ z') : PSt w0 w a g z' gt0 gr0 gt1 gr1 U0 U1 := by
  obtain ⟨p0, r0, h0, k0⟩ := h.p0
  obtain ⟨p1, r1, h1, k1⟩ := h.p1
  exact ⟨h.arr, ⟨p0, r0, h0, by omega⟩, ⟨p1, r1, h1, by omega⟩, h.n0, h.n1, h.dis, h.ge0, h.ge1, h.gg, h.bel⟩
theorem PSt.below (h : PSt w0 w a g z gt0 gr0 gt1 gr1 U0 U1) (hb : Below w.heap.size w w') : PSt w0 w' a g z gt0 gr0 gt1 gr1 U0 U1 := by
  obtain ⟨p0, r0, h0, k0⟩ := h.p0
  obtain ⟨p1, r1, h1, k1⟩ := h.p1
  exact ⟨h.arr.below hb h.arr.lt, ⟨p0, r0, h0.below hb, k0⟩, ⟨p1, r1, h1.below hb, k1⟩, h.n0, h.n1, h.dis, h.ge0, h.ge1, h.gg, h.bel.trans (hb.mono h.bel.size)⟩
theorem PSt.step0 (h : PSt w0 w a g z gt0 gr0 gt1 gr1 U0 U1) {z' : Int} (hz : z ≤ z') {U : Nat → Prop} (hb : BothW w' a U g 0 gt0 gr0 z') (hk : Keeps U0 w w') (hf : Fresh w U0 U) : PSt w0 w' a g z' gt0 gr0 gt1 gr1 U U1 := by
  obtain ⟨p1, r1, h1, k1⟩ := h.p1
  refine ⟨hk.blk h.arr h.n0, hb.pair, ⟨p1, r1, h1.keeps hk (fun i hi hu => h.dis i hu hi), by omega⟩, hb.nU, h.n1, fun i hi hu => ?_, fun i hi => ?_, h.ge1, h.gg, h.bel.trans (hk.below_ h.ge0 h.bel.size)⟩
  · rcases hf i hi with h2 | h2
    · exact h.dis i h2 hu
    · have := h1.lt i hu; omega
  · rcases hf i hi with h2 | h2
    · exact h.ge0 i h2
    · have := h.bel.size; omega
theorem PSt.step1 (h : PSt w0 w a g z gt0 gr0 gt1 gr1 U0 U1) {z' : Int} (hz : z ≤ z') {U : Nat → Prop} (hb : BothW w' a U g 2 gt1 gr1 z') (hk : Keeps U1 w w') (hf : Fresh w U1 U) : PSt w0 w' a g z' gt0 gr0 gt1 gr1 U0 U := by
  obtain ⟨p0, r0, h0, k0⟩ := h.p0
  refine ⟨hk.blk h.arr h.n1, ⟨p0, r0, h0.keeps hk (fun i hi hu => h.dis i hi hu), by omega⟩, hb.pair, h.n0, hb.nU, fun i hi hu => ?_, h.ge0, fun i hi => ?_, h.gg, h.bel.trans (hk.below_ h.ge1 h.bel.size)⟩
  · rcases hf i hu with h2 | h2
    · exact h.dis i hi h2
    · have := h0.lt i hi; omega
  · rcases hf i hi with h2 | h2
    · exact h.ge1 i h2
    · have := h.bel.size; omega
theorem PSt.new0 {w2 : World} {gt gr : Nat} {U : Nat → Prop} (h : PSt w0 w a g z gt0 gr0 gt1 gr1 U0 U1) (h0 : 0 ≤ z) (hb : Below w.heap.size w w2) (hp : PairAt w2 a U gt gr Sc0 R.ref0) (hge : ∀ i, U i → w.heap.size ≤ i ∧ i < w2.heap.size) :
    PSt w0 ((w2.setCell ⟨g, 0, none⟩ (ptr gt)).setCell ⟨g, 1, none⟩ (ptr gr)) a g z gt gr gt1 gr1 U U1 := by
  have h' := h.below hb
  have hlt := h.arr.lt
  have hng : ¬ U g := fun hu => by have := (hge g hu).1; omega
  have hk : Keeps (fun i => i = g) w2 ((w2.setCell ⟨g, 0, none⟩ (ptr gt)).setCell ⟨g, 1, none⟩ (ptr gr)) := ((Keeps.refl (fun i => i = g) _).setCell (p := ⟨g, 0, none⟩) (.inl rfl) _).setCell (p := ⟨g, 1, none⟩) (.inl rfl) _
  obtain ⟨p1, r1, h1, k1⟩ := h'.p1
  obtain ⟨q1, s1, e1, -⟩ := h.p1
  refine ⟨(h'.arr.set_ 0 _).set_ 1 _, ⟨_, _, hp.keeps hk (fun i hi e => hng (e ▸ hi)), h0⟩, ⟨p1, r1, h1.keeps hk (fun i hi e => h.n1 (e ▸ hi)), k1⟩, hng, h.n1, fun i hi hu => ?_, fun i hi => ?_, h.ge1, h.gg, h'.bel.trans (hk.below_ (fun i hi => by have := h.gg; omega) h'.bel.size)⟩
  · have := (hge i hi).1; have := e1.lt i hu; omega
  · have := (hge i hi).1; have := h.bel.size; omega
theorem PSt.new1 {w2 : World} {gt gr : Nat} {U : Nat → Prop} (h : PSt w0 w a g z gt0 gr0 gt1 gr1 U0 U1) (h0 : 0 ≤ z) (hb : Below w.heap.size w w2) (hp : PairAt w2 a U gt gr Sc0 R.ref0) (hge : ∀ i, U i → w.heap.size ≤ i ∧ i < w2.heap.size) :
    PSt w0 ((w2.setCell ⟨g, 2, none⟩ (ptr gt)).setCell ⟨g, 3, none⟩ (ptr gr)) a g z gt0 gr0 gt gr U0 U := by
  have h' := h.below hb
  have hlt := h.arr.lt
  have hng : ¬ U g := fun hu => by have := (hge g hu).1; omega
  have hk : Keeps (fun i => i = g) w2 ((w2.setCell ⟨g, 2, none⟩ (ptr gt)).setCell ⟨g, 3, none⟩ (ptr gr)) := ((Keeps.refl (fun i => i = g) _).setCell (p := ⟨g, 2, none⟩) (.inl rfl) _).setCell (p := ⟨g, 3, none⟩) (.inl rfl) _
  obtain ⟨p0, r0, h1, k1⟩ := h'.p0
  obtain ⟨q1, s1, e1, -⟩ := h.p0
  refine ⟨(h'.arr.set_ 2 _).set_ 3 _, ⟨p0, r0, h1.keeps hk (fun i hi e => h.n0 (e ▸ hi)), k1⟩, ⟨_, _, hp.keeps hk (fun i hi e => hng (e ▸ hi)), h0⟩, h.n0, hng, fun i hi hu => ?_, h.ge0, fun i hi => ?_, h.gg, h'.bel.trans (hk.below_ (fun i hi => by have := h.gg; omega) h'.bel.size)⟩
  · have := (hge i hu).1; have := e1.lt i hi; omega
  · have := (hge i hi).1; have := h.bel.size; omega
end

def PRel (w0 : World) (a : Nat → Addr) (g : Nat) (os : List OpV) (v4 : Value) (wr : World) : Prop :=
  ∃ (k gt0 gr0 gt1 gr1 : Nat) (U0 U1 : Nat → Prop), k ≤ os.length ∧ v4 = .int .i64 k ∧ PSt w0 wr a g (sumC (os.take k) : Nat) gt0 gr0 gt1 gr1 U0 U1

set_option maxRecDepth 100000 in
set_option maxHeartbeats 3000000 in
theorem wplays (A : Option Addr) (cp : Nat) (os : List OpV) (a : Nat → Addr) (w : World) (hA : OpsAt w A os) (hl : sumC os + os.length ≤ 1048576) (he : Errs w a) :
    Calls Tryd.prog 3 #[.slice A os.length cp] w fun e w' => e = .returned (.bool true) ∧ Below w.heap.size w w' := by
  have HE := Lib.hid he
  have HA := Lib.hid hA
  have hn : os.length ≤ 1048576 := by omega
  have HL : Hid (∀ k, (sumC (os.take k) : Int) ≤ 1048576) := Lib.hid (fun k => by have := sumC_le os k; omega)
  clear he hA hl
  go_enter Tryd.func3, Tryd.ntmps3
  go_wp2_with fail
  refine (new_any w).mono ?_
  rintro e w1 ⟨rfl, hs1, hb1⟩
  have S1' := Lib.hid hs1
  have B1 := Lib.hid hb1
  clear hs1 hb1
  go_wp2_with fail
  refine (R.rnew_any w1).mono ?_
  rintro e w2 ⟨rfl, hs2, hb2⟩
  obtain ⟨U0, hp0, hge0⟩ := pair_new HE.out S1'.out B1.out hs2 hb2
  have B2 := Lib.hid (B1.out.trans (hb2.mono B1.out.size))
  have P0 := Lib.hid hp0
  have G0 := Lib.hid hge0
  clear hs2 hb2 hp0 hge0
  go_wp2_with fail
  refine (new_any w2).mono ?_
  rintro e w3 ⟨rfl, hs3, hb3⟩
  have S3 := Lib.hid hs3
  have B3 := Lib.hid hb3
  clear hs3 hb3
  go_wp2_with fail
  refine (R.rnew_any w3).mono ?_
  rintro e w4 ⟨rfl, hs4, hb4⟩
  obtain ⟨U1, hp1, hge1⟩ := pair_new (HE.out.below B2.out) S3.out B3.out hs4 hb4
  have B4 : Hid (Below w2.heap.size w2 w4) := Lib.hid (B3.out.trans (hb4.mono B3.out.size))
  have P1 := Lib.hid hp1
  have G1 := Lib.hid hge1
  clear hs4 hb4 hp1 hge1
  generalize hw5 : w4.alloc (.cells #[ptr w.heap.size, ptr w1.heap.size, ptr w2.heap.size, ptr w3.heap.size] 29) = w5
  unfold ptr at hw5
  have HP : Hid (PSt w w5 a w4.heap.size 0 w.heap.size w1.heap.size w2.heap.size w3.heap.size U0 U1) := Lib.hid (by
    have hb : Below w4.heap.size w4 w5 := hw5 ▸ (Below.refl _ _).alloc (Nat.le_refl _) _
    have h2 := B2.out.size
    have h4 := B4.out.size
    refine ⟨hw5 ▸ Blk.new w4 _ _, ⟨_, _, (P0.out.below B4.out).below hb, Int.le_refl _⟩, ⟨_, _, P1.out.below hb, Int.le_refl _⟩, fun hu => ?_, fun hu => ?_, fun i hi hu => ?_, fun i hi => (G0.out i hi).1, fun i hi => ?_, by omega, B2.out.trans ((B4.out.trans (hb.mono h4)).mono h2)⟩
    · have := (G0.out _ hu).2; omega
    · have := (G1.out _ hu).2; omega
    · have := (G0.out i hi).2; have := (G1.out i hu).1; omega
    · have := (G1.out i hi).1; omega)
  clear S1' B1 B2 P0 G0 S3 B3 B4 P1 G1
  go_wp2_with fail
  clear hw5
  go_loopw [4, 5] (fun v4 _ wr => PRel w a w4.heap.size os v4 wr) (fun v4 _ _ => os.length - (intOf v4).toNat)
  case atStart => exact ⟨0, _, _, _, _, _, _, Nat.zero_le _, rfl, HP.out⟩
  case round =>
    obtain ⟨k, gt0, gr0, gt1, gr1, V0, V1, hk, rfl, hp⟩ := hrel
    have HP1 := Lib.hid hp
    have z0 := hp.arr.cell 0
    have z2 := hp.arr.cell 2
    simp [ptr] at z0 z2
    clear hp HP
    by_cases hlt : k < os.length
    · obtain ⟨b, off, rfl, hb, c0, c1, c2⟩ := HA.out k hlt
      obtain ⟨o, ho⟩ : ∃ o, os[k] = o := ⟨_, rfl⟩
      rw [ho] at c0 c1 c2
      have HS := Lib.hid (sumC_take os k hlt)
      rw [ho] at HS
      have HZ : Hid (((sumC (os.take k) : Nat) : Int) + o.chunk.size ≤ most) := Lib.hid (by have := HL.out (k + 1); rw [HS.out] at this; unfold most; omega)
      obtain ⟨kind, on, ch⟩ := o
      simp only [] at c0 c1 c2 HZ HS
      have C0 := Lib.hid (And.intro c0 (And.intro c1 c2))
      have HBB := Lib.hid hb
      replace c0 := (HP1.out.bel.cell (p := ⟨b, off + k * 3, none⟩) hb).trans c0
      replace c1 := (HP1.out.bel.cell (p := ⟨b, off + k * 3 + 1, none⟩) hb).trans c1
      replace c2 := (HP1.out.bel.cell (p := ⟨b, off + k * 3 + 2, none⟩) hb).trans c2
      clear ho hb
      have r1 : (k : Int) < (os.length : Int) := by omega
      have r2 : 0 ≤ (k : Int) := by omega
      by_cases hon : on.tmod 2 = 0
      · by_cases hkd : kind = 5
        · subst hkd
          go_wp2_with fail
          refine (new_any wr).mono ?_
          rintro e w6 ⟨rfl, hs6, hb6⟩
          have S6 := Lib.hid hs6
          have B6 := Lib.hid hb6
          clear hs6 hb6
          go_wp2_with fail
          refine (R.rnew_any w6).mono ?_
          rintro e w7 ⟨rfl, hs7, hb7⟩
          obtain ⟨V, hpv, hgev⟩ := pair_new (HE.out.below HP1.out.bel) S6.out B6.out hs7 hb7
          have B7 := Lib.hid (B6.out.trans (hb7.mono B6.out.size))
          have HPA := Lib.hid (HP1.out.below B7.out)
          have z0' := HPA.out.arr.cell 0
          have y1 := HPA.out.arr.cell 1
          have m0 := HPA.out.arr.frozen 0
          have m1 := HPA.out.arr.frozen 1
          simp [ptr] at z0' y1
          generalize hw8 : (w7.setCell ⟨w4.heap.size, 0, none⟩ (.pointer (some ⟨wr.heap.size, 0, none⟩))).setCell ⟨w4.heap.size, 1, none⟩ (.pointer (some ⟨w6.heap.size, 0, none⟩)) = w8
          have HPN0 : ∃ gt gr V, PSt w w8 a w4.heap.size (sumC (os.take k) : Nat) gt gr gt1 gr1 V V1 := ⟨_, _, _, hw8 ▸ HP1.out.new0 (by omega) B7.out hpv hgev⟩
          obtain ⟨gt, gr, V, hpn⟩ := HPN0
          have HPN := Lib.hid hpn
          clear hpn hpv hgev hs7 hb7 S6 B6 B7 HPA c0 c1 c2
          have c0 : w8.cell? ⟨b, off + k * 3, none⟩ = some (.int .i64 5) := (HPN.out.bel.cell (p := ⟨b, off + k * 3, none⟩) HBB.out).trans C0.out.1
          have c1 : w8.cell? ⟨b, off + k * 3 + 1, none⟩ = some (.int .i64 on) := (HPN.out.bel.cell (p := ⟨b, off + k * 3 + 1, none⟩) HBB.out).trans C0.out.2.1
          have c2 : w8.cell? ⟨b, off + k * 3 + 2, none⟩ = some (.string ch) := (HPN.out.bel.cell (p := ⟨b, off + k * 3 + 2, none⟩) HBB.out).trans C0.out.2.2
          go_wp2_with fail
          clear hw8
          have HD : Hid (PSt w (w8.drewN 1) a w4.heap.size (sumC (os.take k) : Nat) gt gr gt1 gr1 V V1) := Lib.hid (HPN.out.below (below_drewN' (Below.refl _ _) 1))
          have ED : Hid (Errs (w8.drewN 1) a) := Lib.hid (HE.out.below HD.out.bel)
          have NB : Hid (∀ wy, Keeps V (w8.drewN 1) wy → wy.cell? ⟨b, off + k * 3, none⟩ = some (.int .i64 5) ∧ wy.cell? ⟨b, off + k * 3 + 1, none⟩ = some (.int .i64 on) ∧ wy.cell? ⟨b, off + k * 3 + 2, none⟩ = some (.string ch)) := Lib.hid (fun wy hk => by
            have hnb : ¬ V b := fun hu => by have := HD.out.ge0 b hu; have := HBB.out; omega
            exact ⟨hk.undrewN.cellOf c0 hnb, hk.undrewN.cellOf c1 hnb, hk.undrewN.cellOf c2 hnb⟩)
          go_region_held3 (fun w' => w'.cell? ⟨b, off + k * 3, none⟩ = some (.int .i64 5) ∧ w'.cell? ⟨b, off + k * 3 + 1, none⟩ = some (.int .i64 on) ∧ w'.cell? ⟨b, off + k * 3 + 2, none⟩ = some (.string ch))
            (first
              | exact ⟨c0, c1, c2⟩
              | exact NB.out _ K6.out)
            (first
              | (go_at_call 13; refine (both_does _ a _ w4.heap.size 0 _ _ (sumC (os.take k) : Nat) 5 on ch ED.out HD.out.b0 HZ.out).mono ?_; rintro e w6 ⟨rfl, V6, h6, k6, f6⟩; have H6 := Lib.hid h6; have K6 := Lib.hid k6; have F6 := Lib.hid f6; clear h6 k6 f6))
          all_goals
            go_wp2_with fail
            go_roundw
            case rel => exact ⟨k + 1, _, _, _, _, _, _, hlt, by go_num, by rw [HS.out]; exact HD.out.step0 (by omega) H6.out K6.out F6.out⟩
            case measure => simp [intOf]; omega
        · have q5 : (kind == 5) = false := by rw [beq_eq_false_iff_ne]; exact hkd
          clear hkd
          go_wp2_with fail
          have HD : Hid (PSt w (wr.drewN 1) a w4.heap.size (sumC (os.take k) : Nat) gt0 gr0 gt1 gr1 V0 V1) := Lib.hid (HP1.out.below (below_drewN' (Below.refl _ _) 1))
          have ED : Hid (Errs (wr.drewN 1) a) := Lib.hid (HE.out.below HD.out.bel)
          have NB : Hid (∀ wy, Keeps V0 (wr.drewN 1) wy → wy.cell? ⟨b, off + k * 3, none⟩ = some (.int .i64 kind) ∧ wy.cell? ⟨b, off + k * 3 + 1, none⟩ = some (.int .i64 on) ∧ wy.cell? ⟨b, off + k * 3 + 2, none⟩ = some (.string ch)) := Lib.hid (fun wy hk => by
            have hnb : ¬ V0 b := fun hu => by have := HD.out.ge0 b hu; have := HBB.out; omega
            exact ⟨hk.undrewN.cellOf c0 hnb, hk.undrewN.cellOf c1 hnb, hk.undrewN.cellOf c2 hnb⟩)
          go_region_held3 (fun w' => w'.cell? ⟨b, off + k * 3, none⟩ = some (.int .i64 kind) ∧ w'.cell? ⟨b, off + k * 3 + 1, none⟩ = some (.int .i64 on) ∧ w'.cell? ⟨b, off + k * 3 + 2, none⟩ = some (.string ch))
            (first
              | exact ⟨c0, c1, c2⟩
              | exact NB.out _ K6.out)
            (first
              | (go_at_call 13; refine (both_does _ a _ w4.heap.size 0 _ _ (sumC (os.take k) : Nat) kind on ch ED.out HD.out.b0 HZ.out).mono ?_; rintro e w6 ⟨rfl, V6, h6, k6, f6⟩; have H6 := Lib.hid h6; have K6 := Lib.hid k6; have F6 := Lib.hid f6; clear h6 k6 f6))
          all_goals
            go_wp2_with fail
            go_roundw
            case rel => exact ⟨k + 1, _, _, _, _, _, _, hlt, by go_num, by rw [HS.out]; exact HD.out.step0 (by omega) H6.out K6.out F6.out⟩
            case measure => simp [intOf]; omega
      · have q2 : (on.tmod 2 == 0) = false := by rw [beq_eq_false_iff_ne]; exact hon
        clear hon
        by_cases hkd : kind = 5
        · subst hkd
          go_wp2_with fail
          refine (new_any wr).mono ?_
          rintro e w6 ⟨rfl, hs6, hb6⟩
          have S6 := Lib.hid hs6
          have B6 := Lib.hid hb6
          clear hs6 hb6
          go_wp2_with fail
          refine (R.rnew_any w6).mono ?_
          rintro e w7 ⟨rfl, hs7, hb7⟩
          obtain ⟨V, hpv, hgev⟩ := pair_new (HE.out.below HP1.out.bel) S6.out B6.out hs7 hb7
          have B7 := Lib.hid (B6.out.trans (hb7.mono B6.out.size))
          have HPA := Lib.hid (HP1.out.below B7.out)
          have z0' := HPA.out.arr.cell 2
          have y1 := HPA.out.arr.cell 3
          have m0 := HPA.out.arr.frozen 2
          have m1 := HPA.out.arr.frozen 3
          simp [ptr] at z0' y1
          generalize hw8 : (w7.setCell ⟨w4.heap.size, 2, none⟩ (.pointer (some ⟨wr.heap.size, 0, none⟩))).setCell ⟨w4.heap.size, 3, none⟩ (.pointer (some ⟨w6.heap.size, 0, none⟩)) = w8
          have HPN0 : ∃ gt gr V, PSt w w8 a w4.heap.size (sumC (os.take k) : Nat) gt0 gr0 gt gr V0 V := ⟨_, _, _, hw8 ▸ HP1.out.new1 (by omega) B7.out hpv hgev⟩
          obtain ⟨gt, gr, V, hpn⟩ := HPN0
          have HPN := Lib.hid hpn
          clear hpn hpv hgev hs7 hb7 S6 B6 B7 HPA c0 c1 c2
          have c0 : w8.cell? ⟨b, off + k * 3, none⟩ = some (.int .i64 5) := (HPN.out.bel.cell (p := ⟨b, off + k * 3, none⟩) HBB.out).trans C0.out.1
          have c1 : w8.cell? ⟨b, off + k * 3 + 1, none⟩ = some (.int .i64 on) := (HPN.out.bel.cell (p := ⟨b, off + k * 3 + 1, none⟩) HBB.out).trans C0.out.2.1
          have c2 : w8.cell? ⟨b, off + k * 3 + 2, none⟩ = some (.string ch) := (HPN.out.bel.cell (p := ⟨b, off + k * 3 + 2, none⟩) HBB.out).trans C0.out.2.2
          go_wp2_with fail
          clear hw8
          have HD : Hid (PSt w (w8.drewN 1) a w4.heap.size (sumC (os.take k) : Nat) gt0 gr0 gt gr V0 V) := Lib.hid (HPN.out.below (below_drewN' (Below.refl _ _) 1))
          have ED : Hid (Errs (w8.drewN 1) a) := Lib.hid (HE.out.below HD.out.bel)
          have NB : Hid (∀ wy, Keeps V (w8.drewN 1) wy → wy.cell? ⟨b, off + k * 3, none⟩ = some (.int .i64 5) ∧ wy.cell? ⟨b, off + k * 3 + 1, none⟩ = some (.int .i64 on) ∧ wy.cell? ⟨b, off + k * 3 + 2, none⟩ = some (.string ch)) := Lib.hid (fun wy hk => by
            have hnb : ¬ V b := fun hu => by have := HD.out.ge1 b hu; have := HBB.out; omega
            exact ⟨hk.undrewN.cellOf c0 hnb, hk.undrewN.cellOf c1 hnb, hk.undrewN.cellOf c2 hnb⟩)
          go_region_held3 (fun w' => w'.cell? ⟨b, off + k * 3, none⟩ = some (.int .i64 5) ∧ w'.cell? ⟨b, off + k * 3 + 1, none⟩ = some (.int .i64 on) ∧ w'.cell? ⟨b, off + k * 3 + 2, none⟩ = some (.string ch))
            (first
              | exact ⟨c0, c1, c2⟩
              | exact NB.out _ K6.out)
            (first
              | (go_at_call 13; refine (both_does _ a _ w4.heap.size 2 _ _ (sumC (os.take k) : Nat) 5 on ch ED.out HD.out.b1 HZ.out).mono ?_; rintro e w6 ⟨rfl, V6, h6, k6, f6⟩; have H6 := Lib.hid h6; have K6 := Lib.hid k6; have F6 := Lib.hid f6; clear h6 k6 f6))
          all_goals
            go_wp2_with fail
            go_roundw
            case rel => exact ⟨k + 1, _, _, _, _, _, _, hlt, by go_num, by rw [HS.out]; exact HD.out.step1 (by omega) H6.out K6.out F6.out⟩
            case measure => simp [intOf]; omega
        · have q5 : (kind == 5) = false := by rw [beq_eq_false_iff_ne]; exact hkd
          clear hkd
          go_wp2_with fail
          have HD : Hid (PSt w (wr.drewN 1) a w4.heap.size (sumC (os.take k) : Nat) gt0 gr0 gt1 gr1 V0 V1) := Lib.hid (HP1.out.below (below_drewN' (Below.refl _ _) 1))
          have ED : Hid (Errs (wr.drewN 1) a) := Lib.hid (HE.out.below HD.out.bel)
          have NB : Hid (∀ wy, Keeps V1 (wr.drewN 1) wy → wy.cell? ⟨b, off + k * 3, none⟩ = some (.int .i64 kind) ∧ wy.cell? ⟨b, off + k * 3 + 1, none⟩ = some (.int .i64 on) ∧ wy.cell? ⟨b, off + k * 3 + 2, none⟩ = some (.string ch)) := Lib.hid (fun wy hk => by
            have hnb : ¬ V1 b := fun hu => by have := HD.out.ge1 b hu; have := HBB.out; omega
            exact ⟨hk.undrewN.cellOf c0 hnb, hk.undrewN.cellOf c1 hnb, hk.undrewN.cellOf c2 hnb⟩)
          go_region_held3 (fun w' => w'.cell? ⟨b, off + k * 3, none⟩ = some (.int .i64 kind) ∧ w'.cell? ⟨b, off + k * 3 + 1, none⟩ = some (.int .i64 on) ∧ w'.cell? ⟨b, off + k * 3 + 2, none⟩ = some (.string ch))
            (first
              | exact ⟨c0, c1, c2⟩
              | exact NB.out _ K6.out)
            (first
              | (go_at_call 13; refine (both_does _ a _ w4.heap.size 2 _ _ (sumC (os.take k) : Nat) kind on ch ED.out HD.out.b1 HZ.out).mono ?_; rintro e w6 ⟨rfl, V6, h6, k6, f6⟩; have H6 := Lib.hid h6; have K6 := Lib.hid k6; have F6 := Lib.hid f6; clear h6 k6 f6))
          all_goals
            go_wp2_with fail
            go_roundw
            case rel => exact ⟨k + 1, _, _, _, _, _, _, hlt, by go_num, by rw [HS.out]; exact HD.out.step1 (by omega) H6.out K6.out F6.out⟩
            case measure => simp [intOf]; omega
    · have HPE := Lib.hid (HP1.out.b0)
      have HEE := Lib.hid (HE.out.below HP1.out.bel)
      have HZ0 : Hid (((sumC (os.take k) : Nat) : Int) ≤ most) := Lib.hid (by have := HL.out k; unfold most; omega)
      go_wp2_with fail
      refine (both_all _ a _ w4.heap.size 0 _ _ _ HEE.out HPE.out HZ0.out).mono ?_
      rintro e w6 ⟨rfl, V6, h6, k6, f6⟩
      have HQ := Lib.hid (HP1.out.step0 (Int.le_refl _) h6 k6 f6)
      clear h6 k6 f6
      have HEF := Lib.hid (HE.out.below HQ.out.bel)
      go_wp2_with fail
      refine (both_all _ a _ w4.heap.size 2 _ _ _ HEF.out HQ.out.b1 HZ0.out).mono ?_
      rintro e w7 ⟨rfl, V7, h6, k6, f6⟩
      have HR := Lib.hid (HQ.out.step1 (Int.le_refl _) h6 k6 f6)
      clear h6 k6 f6
      have HEG := Lib.hid (HE.out.below HR.out.bel)
      go_wp2_with fail
      refine (lives_any a w7 HEG.out).mono ?_
      rintro e w8 ⟨rfl, hb8⟩
      have B8 := Lib.hid (HR.out.bel.trans (hb8.mono HR.out.bel.size))
      clear hb8
      go_wp2_with fail
      go_ret
      exact ⟨rfl, B8.out⟩
end Go.Proofs.YtjfeebbhkolmoaaDoor
