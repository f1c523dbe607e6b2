/- Contract of cruciblelaw16.lives. -/
import Derived.Test.YtjfeebbhkolmoaaDoorJsB
namespace Go.Proofs.YtjfeebbhkolmoaaDoor
open Go.RowKit
set_option linter.unusedVariables false

def lv1 : ByteArray := ⟨#[32, 91, 49, 44, 32, 123, 34, 97, 34, 58, 32, 116, 114]⟩
def lv2 : ByteArray := ⟨#[117, 101, 125, 93]⟩
def lv3 : ByteArray := ⟨#[91]⟩
def st1 : Sc := pwrite Sc0 (bnat lv1)
def st2 : Sc := pwrite st1 (bnat lv2)
def st3 : Sc := pwrite st2 (bnat lv3)
theorem st1_is : st1.bad = 0 ∧ st1.size = 13 ∧ st1.open_.length = 2 ∧ pclose st1 = 3 := by decide +kernel
theorem st2_is : st2.bad = 0 ∧ st2.size = 17 ∧ st2.open_.length = 0 ∧ pclose st2 = 0 := by decide +kernel
theorem st3_is : st3.bad = 3 ∧ st3.size = 17 := by decide +kernel
theorem st1_good : Good st1 := write_good _ _ Sc0_good
theorem st2_good : Good st2 := write_good _ _ st1_good
theorem st3_good : Good st3 := write_good _ _ st2_good

/-- a Scanner of the call's own, in a world that is as it was below -/
structure Own (w : World) (a : Nat → Addr) (g : Nat) (s : Sc) (wx : World) : Prop where
  bel : Below w.heap.size w wx
  sc : ∃ S, ScAt wx S g s ∧ sentBlocks a S ∧ ∀ i, S i → w.heap.size ≤ i
theorem Own.new {w w0 w1 : World} {a : Nat → Addr} (he : Errs w0 a) (hb0 : Below w.heap.size w w0) (hs : ScAt w1 (S1 w0.heap.size) w0.heap.size Sc0) (hb : Below w0.heap.size w0 w1) : Own w a w0.heap.size Sc0 w1 :=
  ⟨hb0.trans (hb.mono hb0.size), _, hs, sent_new he, fun i hi => by rw [S1_eq hi]; exact hb0.size⟩
theorem Own.below {w wx wy : World} {a : Nat → Addr} {g : Nat} {s : Sc} (h : Own w a g s wx) (hb : Below wx.heap.size wx wy) : Own w a g s wy := by
  obtain ⟨h1, S, h2, h3, h4⟩ := h
  exact ⟨h1.trans (hb.mono h1.size), S, h2.keeps (T := fun _ => False) (Keeps.of_below hb) (fun _ _ h => h), h3, h4⟩
theorem Own.drewN {w wx : World} {a : Nat → Addr} {g : Nat} {s : Sc} (h : Own w a g s wx) (n : Nat) : Own w a g s (wx.drewN n) := h.below (below_drewN' (Below.refl _ _) n)
/-- Write at such a Scanner -/
def OWPost (w : World) (a : Nat → Addr) (g : Nat) (s : Sc) (w0 : World) (e : Ending) (w' : World) : Prop :=
  ∃ v, e = .returned v ∧ ErrAt w' a w0.heap.size v s.bad s.size ∧ Own w a g s w'
theorem own_write {w wx : World} {a : Nat → Addr} {g : Nat} {s : Sc} (he : Errs w a) (h : Own w a g s wx) (chunk : ByteArray) (hg : Good s) (h0 : 0 ≤ s.size) (hsz : s.size + chunk.size ≤ 9223372036854775806) :
    Calls Tryd.prog 17 #[.pointer (some ⟨g, 0, none⟩), .string chunk] wx (OWPost w a g (pwrite s (bnat chunk)) wx) := by
  obtain ⟨h1, S, h2, h3, h4⟩ := h
  refine (write_any wx S g s chunk a (he.below h1) h3 hg h0 hsz h2).mono ?_
  rintro e w' ⟨v, he1, hv, S', hs', hk, hf⟩
  refine ⟨v, he1, hv, h1.trans (hk.below_ h4 h1.size), S', hs', sent_fresh (he.below h1) h3 hf, fun i hi => ?_⟩
  rcases hf i hi with h5 | h5
  · exact h4 i h5
  · exact Nat.le_trans h1.size h5
def OCPost (w : World) (a : Nat → Addr) (g : Nat) (s : Sc) (w0 : World) (e : Ending) (w' : World) : Prop :=
  ∃ v, e = .returned v ∧ ErrAt w' a w0.heap.size v (pclose s) s.size ∧ Own w a g s w' ∧ Below w0.heap.size w0 w'
theorem own_close {w wx : World} {a : Nat → Addr} {g : Nat} {s : Sc} (he : Errs w a) (h : Own w a g s wx) (hg : Good s) :
    Calls Tryd.prog 20 #[.pointer (some ⟨g, 0, none⟩)] wx (OCPost w a g s wx) := by
  obtain ⟨S, h2, h3, h4⟩ := h.sc
  refine (close_any wx S g s a (he.below h.bel) hg.1 h2).mono ?_
  rintro e w' ⟨v, he1, hv, hb⟩
  exact ⟨v, he1, hv, h.below hb, hb⟩
theorem own_len {w wx : World} {a : Nat → Addr} {g : Nat} {s : Sc} (h : Own w a g s wx) :
    Calls Tryd.prog 19 #[.pointer (some ⟨g, 0, none⟩)] wx fun e w' => e = .returned (.int .i64 s.size) ∧ wx = w' := by
  obtain ⟨S, h2, h3, h4⟩ := h.sc
  exact len_any wx S g s h2
theorem own_depth {w wx : World} {a : Nat → Addr} {g : Nat} {s : Sc} (h : Own w a g s wx) :
    Calls Tryd.prog 21 #[.pointer (some ⟨g, 0, none⟩)] wx fun e w' => e = .returned (.int .i64 (s.open_.length : Nat)) ∧ wx = w' := by
  obtain ⟨S, h2, h3, h4⟩ := h.sc
  exact depth_any wx S g s h2
theorem err_nil {w : World} {a : Nat → Addr} {lo : Nat} {v : Value} {n : Int} (h : ErrAt w a lo v 0 n) : v = .nilIface := by
  rcases h with ⟨-, h⟩ | ⟨h, -⟩
  · exact h
  · exact absurd rfl h
theorem err_some {w : World} {a : Nat → Addr} {lo : Nat} {v : Value} {c : Nat} {n : Int} (hc : c ≠ 0) (h : ErrAt w a lo v c n) : ∃ gf, lo ≤ gf ∧ v = .iface 75 (.pointer (some ⟨gf, 0, none⟩)) ∧ FaultB w gf (a (c - 1)) n := by
  rcases h with ⟨h, -⟩ | ⟨-, h⟩
  · exact absurd h hc
  · exact h
/-- IsAt at the number and the place of a fault -/
theorem isAt_3 (g : Nat) (n : Int) (a : Nat → Addr) (w : World) (he : Errs w a) (hf : FaultB w g (a 2) n) (m : Int) :
    Calls Tryd.prog 24 #[.iface 75 (.pointer (some ⟨g, 0, none⟩)), .int .i64 3, .int .i64 m] w fun e w' => e = .returned (.bool (n == m)) ∧ Below w.heap.size w w' :=
  isAt_fault g n a w 2 (by decide) he hf m
theorem isAt_5 (g : Nat) (n : Int) (a : Nat → Addr) (w : World) (he : Errs w a) (hf : FaultB w g (a 4) n) (m : Int) :
    Calls Tryd.prog 24 #[.iface 75 (.pointer (some ⟨g, 0, none⟩)), .int .i64 5, .int .i64 m] w fun e w' => e = .returned (.bool (n == m)) ∧ Below w.heap.size w w' :=
  isAt_fault g n a w 4 (by decide) he hf m

set_option maxRecDepth 100000 in
set_option maxHeartbeats 3000000 in
theorem lives_any (a : Nat → Addr) (w : World) (he : Errs w a) :
    Calls Tryd.prog 15 #[] w fun e w' => e = .returned (.bool true) ∧ Below w.heap.size w w' := by
  have HE := Lib.hid he
  obtain ⟨a1, a2, a3, a4⟩ := st1_is
  obtain ⟨b1, b2, b3, b4⟩ := st2_is
  obtain ⟨c1, c2⟩ := st3_is
  have G1 := st1_good
  have G2 := st2_good
  have W1 := Lib.hid (fun wx (h : Own w a w.heap.size Sc0 wx) => own_write he h lv1 Sc0_good (by decide) (by decide))
  have W2 := Lib.hid (fun wx (h : Own w a w.heap.size st1 wx) => own_write he h lv2 G1 (by rw [a2]; decide) (by rw [a2]; decide))
  have W3 := Lib.hid (fun wx (h : Own w a w.heap.size st2 wx) => own_write he h lv3 G2 (by rw [b2]; decide) (by rw [b2]; decide))
  have C1 := Lib.hid (fun wx (h : Own w a w.heap.size st1 wx) => own_close he h G1)
  have C2 := Lib.hid (fun wx (h : Own w a w.heap.size st2 wx) => own_close he h G2)
  have D1 := Lib.hid (fun wx (h : Own w a w.heap.size st1 wx) => own_depth h)
  have D2 := Lib.hid (fun wx (h : Own w a w.heap.size st2 wx) => own_depth h)
  have L1 := Lib.hid (fun wx (h : Own w a w.heap.size st1 wx) => own_len h)
  have L3 := Lib.hid (fun wx (h : Own w a w.heap.size st3 wx) => own_len h)
  unfold OCPost at C1 C2
  rw [a4] at C1
  rw [b4] at C2
  rw [a2] at C1 L1
  rw [a3] at D1
  rw [b3] at D2
  rw [c2] at L3
  change Hid (∀ wx, Own w a w.heap.size Sc0 wx → Calls Tryd.prog 17 #[.pointer (some ⟨w.heap.size, 0, none⟩), .string lv1] wx (OWPost w a w.heap.size st1 wx)) at W1
  change Hid (∀ wx, Own w a w.heap.size st1 wx → Calls Tryd.prog 17 #[.pointer (some ⟨w.heap.size, 0, none⟩), .string lv2] wx (OWPost w a w.heap.size st2 wx)) at W2
  change Hid (∀ wx, Own w a w.heap.size st2 wx → Calls Tryd.prog 17 #[.pointer (some ⟨w.heap.size, 0, none⟩), .string lv3] wx (OWPost w a w.heap.size st3 wx)) at W3
  unfold OWPost at W1 W2 W3
  rw [a1] at W1
  rw [b1] at W2
  rw [c1, c2] at W3
  unfold lv1 at W1
  unfold lv2 at W2
  unfold lv3 at W3
  clear he a1 a2 a3 a4 b1 b2 b3 b4 c1 c2 G1 G2
  go_enter Tryd.func15, Tryd.ntmps15
  go_wp2_with fail
  refine (new_any w).mono ?_
  rintro e w1 ⟨rfl, hs1, hb1⟩
  have O1 := Lib.hid (Own.new HE.out (Below.refl _ _) hs1 hb1)
  clear hs1 hb1
  go_wp2_with fail
  refine (W1.out w1 O1.out).mono ?_
  rintro e w2 ⟨v, rfl, hv, ho⟩
  obtain rfl := err_nil hv
  have O2 := Lib.hid ho
  clear hv ho
  go_wp2_with fail
  refine (D1.out w2 O2.out).mono ?_
  rintro e w3 ⟨rfl, rfl⟩
  go_wp2_with fail
  refine (L1.out w2 O2.out).mono ?_
  rintro e w3 ⟨rfl, rfl⟩
  go_wp2_with fail
  refine (C1.out w2 O2.out).mono ?_
  rintro e w3 ⟨v, rfl, hv, ho, -⟩
  obtain ⟨gf, -, rfl, hff⟩ := err_some (by decide) hv
  have O3 := Lib.hid ho
  have I1 := Lib.hid (isAt_3 gf 13 a w3 (HE.out.below ho.bel) hff 13)
  rw [show ((13 : Int) == 13) = true from rfl] at I1
  clear hv ho hff
  go_wp2_with fail
  refine I1.out.mono ?_
  rintro e w4 ⟨rfl, hb4⟩
  have O4 := Lib.hid (O3.out.below hb4)
  clear hb4
  go_wp2_with fail
  refine (W2.out w4 O4.out).mono ?_
  rintro e w5 ⟨v, rfl, hv, ho⟩
  obtain rfl := err_nil hv
  have O5 := Lib.hid ho
  clear hv ho
  go_wp2_with fail
  refine (C2.out w5 O5.out).mono ?_
  rintro e w6 ⟨v, rfl, hv, ho, -⟩
  obtain rfl := err_nil hv
  have O6 := Lib.hid ho
  clear hv ho
  go_wp2_with fail
  refine (D2.out w6 O6.out).mono ?_
  rintro e w7 ⟨rfl, rfl⟩
  go_wp2_with fail
  refine (W3.out w6 O6.out).mono ?_
  rintro e w7 ⟨v, rfl, hv, ho⟩
  obtain ⟨gf, -, rfl, hff⟩ := err_some (by decide) hv
  have O7 := Lib.hid ho
  have I2 := Lib.hid (isAt_3 gf 17 a w7 (HE.out.below ho.bel) hff 17)
  rw [show ((17 : Int) == 17) = true from rfl] at I2
  clear hv ho hff
  go_wp2_with fail
  refine I2.out.mono ?_
  rintro e w8 ⟨rfl, hb8⟩
  have O8 := Lib.hid (O7.out.below hb8)
  clear hb8
  go_wp2_with fail
  refine (L3.out w8 O8.out).mono ?_
  rintro e w9 ⟨rfl, rfl⟩
  go_wp2_with fail
  go_ret
  exact ⟨rfl, O8.out.bel⟩
end Go.Proofs.YtjfeebbhkolmoaaDoor
