/- all of cruciblelaw16 at a pair of scanners; the walk of JsonscanTells. -/
import Derived.Test.YtjfeebbhkolmoaaDoorWPlay1
namespace Go.Proofs.YtjfeebbhkolmoaaDoor
open Go.RowKit
set_option linter.unusedVariables false

/-- a 'both' at ⟨gb, o⟩, its scanners beside each other, no more than z written -/
structure BothW (w : World) (a : Nat → Addr) (U : Nat → Prop) (gb o gt gr : Nat) (z : Int) : Prop where
  pair : ∃ p r, PairAt w a U gt gr p r ∧ p.size ≤ z
  c0 : w.cell? ⟨gb, o, none⟩ = some (.pointer (some ⟨gt, 0, none⟩))
  c1 : w.cell? ⟨gb, o + 1, none⟩ = some (.pointer (some ⟨gr, 0, none⟩))
  nU : ¬ U gb
theorem BothW.sent {w : World} {a : Nat → Addr} {U : Nat → Prop} {gb o gt gr : Nat} {z : Int} (h : BothW w a U gb o gt gr z) : sentBlocks a U := by
  obtain ⟨⟨p, r, h1, h2⟩, -, -, -⟩ := h
  exact h1.sent
theorem BothW.lt {w : World} {a : Nat → Addr} {U : Nat → Prop} {gb o gt gr : Nat} {z : Int} (h : BothW w a U gb o gt gr z) : ∀ i, U i → i < w.heap.size := by
  obtain ⟨⟨p, r, h1, h2⟩, -, -, -⟩ := h
  exact h1.lt
theorem BothW.gbl {w : World} {a : Nat → Addr} {U : Nat → Prop} {gb o gt gr : Nat} {z : Int} (h : BothW w a U gb o gt gr z) : gb < w.heap.size := World.block_lt_of_cell? w _ h.c0
theorem BothW.keeps {w w' : World} {a : Nat → Addr} {U V : Nat → Prop} {gb o gt gr : Nat} {z : Int} (h : BothW w a U gb o gt gr z) (hk : Keeps V w w') (hn : ∀ i, U i → ¬ V i) (hg : ¬ V gb) : BothW w' a U gb o gt gr z := by
  obtain ⟨⟨p, r, h1, h2⟩, h3, h4, h5⟩ := h
  exact ⟨⟨p, r, h1.keeps hk hn, h2⟩, hk.cellOf h3 hg, hk.cellOf h4 hg, h5⟩
theorem BothW.mono {w : World} {a : Nat → Addr} {U : Nat → Prop} {gb o gt gr : Nat} {z z' : Int} (h : BothW w a U gb o gt gr z) (hz : z ≤ z') : BothW w a U gb o gt gr z' := by
  obtain ⟨⟨p, r, h1, h2⟩, h3, h4, h5⟩ := h
  exact ⟨⟨p, r, h1, by omega⟩, h3, h4, h5⟩
def BothPost (w : World) (a : Nat → Addr) (U : Nat → Prop) (gb o gt gr : Nat) (z : Int) (e : Ending) (w' : World) : Prop :=
  e = .returned (.bool true) ∧ ∃ U', BothW w' a U' gb o gt gr z ∧ Keeps U w w' ∧ Fresh w U U'
theorem both_does (w : World) (a : Nat → Addr) (U : Nat → Prop) (gb o gt gr : Nat) (z : Int) (k on : Int) (ch : ByteArray) (he : Errs w a) (h : BothW w a U gb o gt gr z) (hz : z + ch.size ≤ most) :
    Calls Tryd.prog 13 #[.pointer (some ⟨gb, o, none⟩), .agg #[.int .i64 k, .int .i64 on, .string ch]] w (BothPost w a U gb o gt gr (z + ch.size)) := by
  have hl := h.gbl
  obtain ⟨⟨p, r, h1, h2⟩, h3, h4, h5⟩ := h
  refine (does_any gb o gt gr k on ch a w U p r he h1 h3 h4 h5 (by omega)).mono ?_
  rintro e w' ⟨rfl, p', r', ⟨U', h6, h7, h8⟩, h9⟩
  refine ⟨rfl, U', ⟨⟨p', r', h6, by omega⟩, h7.cellOf h3 h5, h7.cellOf h4 h5, fun hu => ?_⟩, h7, h8⟩
  rcases h8 _ hu with h10 | h10
  · exact h5 h10
  · omega
theorem BothPost.trans {w w1 : World} {a : Nat → Addr} {U U1 : Nat → Prop} {gb o gt gr : Nat} {z : Int} {e : Ending} {w2 : World} (hk : Keeps U w w1) (hf : Fresh w U U1) (h : BothPost w1 a U1 gb o gt gr z e w2) : BothPost w a U gb o gt gr z e w2 := by
  obtain ⟨he, U2, h1, h2, h3⟩ := h
  exact ⟨he, U2, h1, hk.trans h2 hf, hf.trans hk h3⟩

set_option maxRecDepth 100000 in
set_option maxHeartbeats 3000000 in
theorem both_all (w : World) (a : Nat → Addr) (U : Nat → Prop) (gb o gt gr : Nat) (z : Int) (he : Errs w a) (h : BothW w a U gb o gt gr z) (hz : z ≤ most) :
    Calls Tryd.prog 14 #[.pointer (some ⟨gb, o, none⟩)] w (BothPost w a U gb o gt gr z) := by
  have HD : Hid (∀ k wx U', Errs wx a → BothW wx a U' gb o gt gr z → Calls Tryd.prog 13 #[.pointer (some ⟨gb, o, none⟩), .agg #[.int .i64 k, .int .i64 0, .string ⟨#[]⟩]] wx (BothPost wx a U' gb o gt gr z)) := Lib.hid (fun k wx U' he h => by
    have := both_does wx a U' gb o gt gr z k 0 ⟨#[]⟩ he h (by show z + ((0 : Nat) : Int) ≤ most; omega)
    rw [show z + ((⟨#[]⟩ : ByteArray).size : Int) = z from by show z + ((0 : Nat) : Int) = z; omega] at this
    exact this)
  have HE := Lib.hid he
  have H0 := Lib.hid h
  clear he h hz
  go_enter Tryd.func14, Tryd.ntmps14
  go_wp2_with fail
  refine (HD.out 2 w U HE.out H0.out).mono ?_
  rintro e w1 ⟨rfl, U1, h1, k1, f1⟩
  have E1 := Lib.hid (HE.out.keeps k1 H0.out.sent)
  have H1 := Lib.hid h1
  have K1 := Lib.hid k1
  have F1 := Lib.hid f1
  clear h1 k1 f1
  go_wp2_with fail
  refine (HD.out 3 w1 U1 E1.out H1.out).mono ?_
  rintro e w2 ⟨rfl, U2, h1, k1, f1⟩
  have E2 := Lib.hid (E1.out.keeps k1 H1.out.sent)
  have H2 := Lib.hid h1
  have K2 := Lib.hid (K1.out.trans k1 F1.out)
  have F2 := Lib.hid (F1.out.trans K1.out f1)
  clear h1 k1 f1
  go_wp2_with fail
  refine (HD.out 4 w2 U2 E2.out H2.out).mono ?_
  rintro e w3 ⟨rfl, U3, h1, k1, f1⟩
  have E3 := Lib.hid (E2.out.keeps k1 H2.out.sent)
  have H3 := Lib.hid h1
  have K3 := Lib.hid (K2.out.trans k1 F2.out)
  have F3 := Lib.hid (F2.out.trans K2.out f1)
  clear h1 k1 f1
  go_wp2_with fail
  refine (HD.out 1 w3 U3 E3.out H3.out).mono ?_
  rintro e w4 ⟨rfl, U4, h1, k1, f1⟩
  have E4 := Lib.hid (E3.out.keeps k1 H3.out.sent)
  have H4 := Lib.hid h1
  have K4 := Lib.hid (K3.out.trans k1 F3.out)
  have F4 := Lib.hid (F3.out.trans K3.out f1)
  clear h1 k1 f1
  go_wp2_with fail
  refine (HD.out 2 w4 U4 E4.out H4.out).mono ?_
  rintro e w5 ⟨rfl, U5, h1, k1, f1⟩
  have H5 := Lib.hid h1
  have K5 := Lib.hid (K4.out.trans k1 F4.out)
  have F5 := Lib.hid (F4.out.trans K4.out f1)
  clear h1 k1 f1
  go_wp2_with fail
  go_ret
  exact ⟨rfl, U5, H5.out, K5.out, F5.out⟩

theorem sent_ge {w : World} {a : Nat → Addr} {U : Nat → Prop} (he : Errs w a) (h : ∀ i, U i → w.heap.size ≤ i) : sentBlocks a U := by
  intro i hi
  have := h i hi
  refine ⟨by have := he.low; omega, fun k hk e => ?_⟩
  obtain ⟨c, t, ee⟩ := he.blk k hk
  have := (Array.getElem?_eq_some_iff.1 ee).1
  omega
/-- two new ones -/
theorem pair_new {w w1 w2 : World} {a : Nat → Addr} (he : Errs w a) (hs1 : ScAt w1 (S1 w.heap.size) w.heap.size Sc0) (hb1 : Below w.heap.size w w1) (hs2 : R.StAt w2 (R.SO w1.heap.size (.slice none 0 0)) w1.heap.size R.ref0) (hb2 : Below w1.heap.size w1 w2) :
    ∃ U, PairAt w2 a U w.heap.size w1.heap.size Sc0 R.ref0 ∧ ∀ i, U i → w.heap.size ≤ i ∧ i < w2.heap.size := by
  have hl1 := hs1.lt
  have hl2 := hs2.lt
  have hd : ∀ i, S1 w.heap.size i → ¬ R.SO w1.heap.size (.slice none 0 0) i := fun i h1 h2 => by
    have := hl1 i h1
    rcases h2 with h2 | h2
    · omega
    · cases h2
  have hge : ∀ i, (S1 w.heap.size i ∨ R.SO w1.heap.size (.slice none 0 0) i) → w.heap.size ≤ i ∧ i < w2.heap.size := by
    rintro i (h | h)
    · have := hl1 i h
      have := hb2.size
      rw [S1_eq h] at *
      omega
    · have := hl2 i h
      have := hb1.size
      rcases h with h | h
      · omega
      · cases h
  exact ⟨_, ⟨⟨_, _, hs1.keeps (T := fun _ => False) (Keeps.of_below hb2) (fun _ _ h => h), hs2, hd, rfl⟩, sent_ge he (fun i hi => (hge i hi).1), beside_0⟩, hge⟩

set_option maxRecDepth 100000 in
set_option maxHeartbeats 3000000 in
theorem wtells (s : ByteArray) (hsz : s.size ≤ 1048576) (a : Nat → Addr) (w : World) (he : Errs w a) :
    Calls Tryd.prog 5 #[.string s] w fun e w' => e = .returned (.bool true) ∧ Below w.heap.size w w' := by
  have HE := Lib.hid he
  have HZ : Hid ((0 : Int) + s.size ≤ most) := Lib.hid (by unfold most; omega)
  clear he hsz
  go_enter Tryd.func5, Tryd.ntmps5
  go_wp2_with fail
  refine (new_any w).mono ?_
  rintro e w1 ⟨rfl, hs1, hb1⟩
  have S1' := Lib.hid hs1
  have B1 := Lib.hid hb1
  clear hs1 hb1
  go_wp2_with fail
  refine (R.rnew_any w1).mono ?_
  rintro e w2 ⟨rfl, hs2, hb2⟩
  obtain ⟨U, hp, hge⟩ := pair_new HE.out S1'.out B1.out hs2 hb2
  have B2 := Lib.hid (B1.out.trans (hb2.mono B1.out.size))
  generalize hw3 : w2.alloc (.cells #[.pointer (some ⟨w.heap.size, 0, none⟩), .pointer (some ⟨w1.heap.size, 0, none⟩)] 28) = w3
  have HB : Hid (BothW w3 a U w2.heap.size 0 w.heap.size w1.heap.size 0) := Lib.hid (by
    have hbl : Blk w3 w2.heap.size 28 #[.pointer (some ⟨w.heap.size, 0, none⟩), .pointer (some ⟨w1.heap.size, 0, none⟩)] := hw3 ▸ Blk.new w2 _ _
    refine ⟨⟨Sc0, R.ref0, hp.below (hw3 ▸ (Below.refl _ _).alloc (Nat.le_refl _) _), Int.le_refl _⟩, hbl.cell 0, hbl.cell 1, fun hu => ?_⟩
    have := (hge _ hu).2
    omega)
  have B3 : Hid (Below w.heap.size w w3) := Lib.hid (hw3 ▸ B2.out.alloc (by have := B2.out.size; omega) _)
  have E3 : Hid (Errs w3 a) := Lib.hid (HE.out.below B3.out)
  have HGE : Hid (∀ i, U i → w.heap.size ≤ i) := Lib.hid (fun i hi => (hge i hi).1)
  have c0 := HB.out.c0
  clear hp hge hs2 hb2
  go_wp2_with fail
  refine (both_does _ a U _ _ _ _ 0 1 0 s E3.out HB.out HZ.out).mono ?_
  rintro e w4 ⟨rfl, U4, h4, k4, f4⟩
  have E4 := Lib.hid (E3.out.keeps k4 HB.out.sent)
  have H4 := Lib.hid h4
  have K4 := Lib.hid k4
  have F4 := Lib.hid f4
  clear h4 k4 f4
  go_wp2_with fail
  refine (both_all _ a U4 _ _ _ _ _ E4.out H4.out HZ.out).mono ?_
  rintro e w5 ⟨rfl, U5, h1, k1, f1⟩
  have E5 := Lib.hid (E4.out.keeps k1 H4.out.sent)
  have H5 := Lib.hid h1
  have K5 := Lib.hid (K4.out.trans k1 F4.out)
  have F5 := Lib.hid (F4.out.trans K4.out f1)
  clear h1 k1 f1
  go_wp2_with fail
  refine (both_all _ a U5 _ _ _ _ _ E5.out H5.out HZ.out).mono ?_
  rintro e w6 ⟨rfl, U6, h1, k1, f1⟩
  have E6 := Lib.hid (E5.out.keeps k1 H5.out.sent)
  have K6 := Lib.hid (K5.out.trans k1 F5.out)
  clear h1 k1 f1
  go_wp2_with fail
  refine (lives_any a w6 E6.out).mono ?_
  rintro e w7 ⟨rfl, hb7⟩
  have B6 : Hid (Below w.heap.size w w6) := Lib.hid (B3.out.trans (K6.out.below_ HGE.out B3.out.size))
  have B7 := Lib.hid (B6.out.trans (hb7.mono B6.out.size))
  clear hb7
  go_wp2_with fail
  go_ret
  exact ⟨rfl, B7.out⟩
end Go.Proofs.YtjfeebbhkolmoaaDoor
