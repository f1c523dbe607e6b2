/- The program's scanner beside the document's in memory: their calls; fits. -/
import Derived.Test.YtjfeebbhkolmoaaDoorSimA
import Derived.Test.YtjfeebbhkolmoaaDoorR16I
import Derived.Test.YtjfeebbhkolmoaaDoorJsC
import Derived.Deep.RegionHeld3
namespace Go.Proofs.YtjfeebbhkolmoaaDoor
open Go.RowKit
set_option linter.unusedVariables false

theorem Keeps.mono {S T : Nat → Prop} {a w : World} (h : Keeps S a w) (hs : ∀ i, S i → T i) : Keeps T a w := ⟨h.os, h.tape, h.output, h.size, fun k hk hn => h.block k hk (fun e => hn (hs k e))⟩
/-- both lie in memory, apart from each other and from the sentinels -/
structure PairAt (w : World) (a : Nat → Addr) (U : Nat → Prop) (gt gr : Nat) (p : Sc) (r : R.St) : Prop where
  hh : ∃ S T, ScAt w S gt p ∧ R.StAt w T gr r ∧ (∀ i, S i → ¬ T i) ∧ U = (fun i => S i ∨ T i)
  sent : sentBlocks a U
  bes : Beside p r
theorem PairAt.lt {w : World} {a : Nat → Addr} {U : Nat → Prop} {gt gr : Nat} {p : Sc} {r : R.St} (h : PairAt w a U gt gr p r) : ∀ i, U i → i < w.heap.size := by
  obtain ⟨S, T, h1, h2, h3, rfl⟩ := h.hh
  rintro i (hi | hi)
  · exact h1.lt i hi
  · exact h2.lt i hi
theorem PairAt.keeps {w w' : World} {a : Nat → Addr} {U V : Nat → Prop} {gt gr : Nat} {p : Sc} {r : R.St} (h : PairAt w a U gt gr p r) (hk : Keeps V w w') (hn : ∀ i, U i → ¬ V i) : PairAt w' a U gt gr p r := by
  obtain ⟨⟨S, T, h1, h2, h3, rfl⟩, h4, h5⟩ := h
  exact ⟨⟨S, T, h1.keeps hk (fun i hi => hn i (.inl hi)), h2.keeps hk (fun i hi => hn i (.inr hi)), h3, rfl⟩, h4, h5⟩
theorem PairAt.below {w w' : World} {a : Nat → Addr} {U : Nat → Prop} {gt gr : Nat} {p : Sc} {r : R.St} (h : PairAt w a U gt gr p r) (hb : Below w.heap.size w w') : PairAt w' a U gt gr p r := h.keeps (V := fun _ => False) (Keeps.of_below hb) (fun _ _ h => h)
/-- what a call leaves -/
def PairLeft (w : World) (a : Nat → Addr) (U : Nat → Prop) (gt gr : Nat) (p : Sc) (r : R.St) (w' : World) : Prop := ∃ U', PairAt w' a U' gt gr p r ∧ Keeps U w w' ∧ Fresh w U U'
theorem PairLeft.stay {w w' : World} {a : Nat → Addr} {U : Nat → Prop} {gt gr : Nat} {p : Sc} {r : R.St} (h : PairAt w a U gt gr p r) (hb : Below w.heap.size w w') : PairLeft w a U gt gr p r w' := ⟨U, h.below hb, Keeps.of_below hb, Fresh.refl _ _⟩
theorem PairLeft.trans {w w1 w2 : World} {a : Nat → Addr} {U U1 : Nat → Prop} {gt gr : Nat} {p : Sc} {r : R.St} (hk : Keeps U w w1) (hf : Fresh w U U1) (h : PairLeft w1 a U1 gt gr p r w2) : PairLeft w a U gt gr p r w2 := by
  obtain ⟨U2, h1, h2, h3⟩ := h
  exact ⟨U2, h1, hk.trans h2 hf, hf.trans hk h3⟩

/-- the bound of all that is written -/
def most : Int := 35184372088750
/-- both Writes, one after the other: what stands between them -/
structure MidAt (w0 w : World) (a : Nat → Addr) (U : Nat → Prop) (gt gr : Nat) (p p' : Sc) (r : R.St) (v : Value) : Prop where
  err : ErrAt w a w0.heap.size v p'.bad p'.size
  hh : ∃ S T, ScAt w S gt p' ∧ R.StAt w T gr r ∧ (∀ i, S i → ¬ T i) ∧ Fresh w0 U (fun i => S i ∨ T i) ∧ (∀ i, T i → U i ∧ i < w0.heap.size)
  keeps : Keeps U w0 w
theorem pair_write {w : World} {a : Nat → Addr} {U : Nat → Prop} {gt gr : Nat} {p : Sc} {r : R.St} (he : Errs w a) (h : PairAt w a U gt gr p r) (chunk : ByteArray) (hz : p.size + chunk.size ≤ most) :
    Calls Tryd.prog 17 #[.pointer (some ⟨gt, 0, none⟩), .string chunk] w fun e w' => ∃ v, e = .returned v ∧ MidAt w w' a U gt gr p (pwrite p (bnat chunk)) r v := by
  obtain ⟨⟨S, T, h1, h2, h3, rfl⟩, h4, h5⟩ := h
  unfold most at hz
  refine (write_any w S gt p chunk a he (fun i hi => h4 i (.inl hi)) h5.good h5.lo (by omega) h1).mono ?_
  rintro e w' ⟨v, rfl, hv, S', hs', hk, hf⟩
  refine ⟨v, rfl, hv, ⟨S', T, hs', h2.keeps hk (fun i hi hs => h3 i hs hi), fun i hi ht => ?_, fun i hi => ?_, fun i hi => ⟨.inr hi, h2.lt i hi⟩⟩, hk.mono (fun i hi => .inl hi)⟩
  · rcases hf i hi with h6 | h6
    · exact h3 i h6 ht
    · have := h2.lt i ht; omega
  · rcases hi with hi | hi
    · rcases hf i hi with h6 | h6
      · exact .inl (.inl h6)
      · exact .inr h6
    · exact .inl (.inr hi)
theorem mid_write {w0 w : World} {a : Nat → Addr} {U : Nat → Prop} {gt gr : Nat} {p : Sc} {r : R.St} {v : Value} (chunk : ByteArray) (he : Errs w0 a) (hU : sentBlocks a U) (hb : Beside p r) (hz : p.size + chunk.size ≤ most) (h : MidAt w0 w a U gt gr p (pwrite p (bnat chunk)) r v) :
    Calls Tryd.prog 30 #[.pointer (some ⟨gr, 0, none⟩), .string chunk] w fun e w' => e = .returned (.agg #[.int .i64 ((pwrite p (bnat chunk)).bad : Nat), .int .i64 (R.rwrite r (bnat chunk)).o.at_, .string ⟨#[]⟩]) ∧ ErrAt w' a w0.heap.size v (pwrite p (bnat chunk)).bad (pwrite p (bnat chunk)).size ∧ PairLeft w0 a U gt gr (pwrite p (bnat chunk)) (R.rwrite r (bnat chunk)) w' := by
  obtain ⟨h1, ⟨S, T, h2, h3, h4, h5, h6⟩, h7⟩ := h
  have hbe := hb.write (bnat chunk)
  unfold most at hz
  have hlo := hb.lo
  have hsz := bnat_len chunk
  refine (R.rwrite_any w T gr r chunk (fun k hk => (hb.write _).fit ?_) (by omega) h3).mono ?_
  · have := (write_size p ((bnat chunk).take k)).2
    have hl : ((bnat chunk).take k).length ≤ k := List.length_take_le _ _
    omega
  rintro e w' ⟨rfl, T', hs', hk, hf⟩
  have hfr : Fresh w0 U (fun i => S i ∨ T' i) := by
    rintro i (hi | hi)
    · exact h5 i (.inl hi)
    · rcases hf i hi with h8 | h8
      · exact h5 i (.inr h8)
      · exact .inr (Nat.le_trans h7.size h8)
  refine ⟨by rw [hbe.bad], h1.keeps hk (fun i hi => (h6 i hi).2), fun i => S i ∨ T' i, ⟨⟨S, T', h2.keeps hk h4, hs', fun i hi ht => ?_, rfl⟩, sent_fresh he hU hfr, hbe⟩, h7.trans (hk.mono (T := U) (fun i hi => (h6 i hi).1)) (Fresh.refl _ _), hfr⟩
  rcases hf i ht with h8 | h8
  · exact h4 i hi h8
  · have := h2.lt i hi; omega
theorem pair_close {w : World} {a : Nat → Addr} {U : Nat → Prop} {gt gr : Nat} {p : Sc} {r : R.St} (he : Errs w a) (h : PairAt w a U gt gr p r) :
    Calls Tryd.prog 20 #[.pointer (some ⟨gt, 0, none⟩)] w fun e w' => ∃ v, e = .returned v ∧ ErrAt w' a w.heap.size v (pclose p) p.size ∧ Below w.heap.size w w' := by
  obtain ⟨⟨S, T, h1, h2, h3, rfl⟩, h4, h5⟩ := h
  exact close_any w S gt p a he h5.good.1 h1
theorem pair_rclose {w : World} {a : Nat → Addr} {U : Nat → Prop} {gt gr : Nat} {p : Sc} {r : R.St} (he : Errs w a) (h : PairAt w a U gt gr p r) :
    Calls Tryd.prog 31 #[.pointer (some ⟨gr, 0, none⟩)] w fun e w' => e = .returned (.agg #[.int .i64 ((pclose p) : Nat), .int .i64 (R.pClose r).2, .string ⟨#[]⟩]) ∧ PairLeft w a U gt gr p r w' := by
  obtain ⟨⟨S, T, h1, h2, h3, rfl⟩, h4, h5⟩ := h
  have hc := h5.close
  refine (R.rclose_any w T gr r h2).mono ?_
  rintro e w' ⟨rfl, T', hs', hk, hf⟩
  have hfr : Fresh w (fun i => S i ∨ T i) (fun i => S i ∨ T' i) := by
    rintro i (hi | hi)
    · exact .inl (.inl hi)
    · rcases hf i hi with h8 | h8
      · exact .inl (.inr h8)
      · exact .inr h8
  refine ⟨by rw [hc.1], fun i => S i ∨ T' i, ⟨⟨S, T', h1.keeps hk h3, hs', fun i hi ht => ?_, rfl⟩, sent_fresh he h4 hfr, h5⟩, hk.mono (fun i hi => .inr hi), hfr⟩
  rcases hf i ht with h8 | h8
  · exact h3 i hi h8
  · have := h1.lt i hi; omega
theorem pair_len {w : World} {a : Nat → Addr} {U : Nat → Prop} {gt gr : Nat} {p : Sc} {r : R.St} (h : PairAt w a U gt gr p r) :
    Calls Tryd.prog 19 #[.pointer (some ⟨gt, 0, none⟩)] w fun e w' => e = .returned (.int .i64 p.size) ∧ w' = w := by
  obtain ⟨⟨S, T, h1, h2, h3, rfl⟩, h4, h5⟩ := h
  refine (len_any w S gt p h1).mono ?_
  rintro e w' ⟨rfl, rfl⟩
  exact ⟨rfl, rfl⟩
theorem pair_rlen {w : World} {a : Nat → Addr} {U : Nat → Prop} {gt gr : Nat} {p : Sc} {r : R.St} (h : PairAt w a U gt gr p r) :
    Calls Tryd.prog 32 #[.pointer (some ⟨gr, 0, none⟩)] w fun e w' => e = .returned (.int .i64 p.size) ∧ w' = w := by
  obtain ⟨⟨S, T, h1, h2, h3, rfl⟩, h4, h5⟩ := h
  refine (R.rlen_any w T gr r h2).mono ?_
  rintro e w' ⟨rfl, rfl⟩
  exact ⟨by rw [h5.size], rfl⟩
theorem pair_depth {w : World} {a : Nat → Addr} {U : Nat → Prop} {gt gr : Nat} {p : Sc} {r : R.St} (h : PairAt w a U gt gr p r) :
    Calls Tryd.prog 21 #[.pointer (some ⟨gt, 0, none⟩)] w fun e w' => e = .returned (.int .i64 (p.open_.length : Nat)) ∧ w' = w := by
  obtain ⟨⟨S, T, h1, h2, h3, rfl⟩, h4, h5⟩ := h
  refine (depth_any w S gt p h1).mono ?_
  rintro e w' ⟨rfl, rfl⟩
  exact ⟨rfl, rfl⟩
theorem pair_rdepth {w : World} {a : Nat → Addr} {U : Nat → Prop} {gt gr : Nat} {p : Sc} {r : R.St} (h : PairAt w a U gt gr p r) :
    Calls Tryd.prog 33 #[.pointer (some ⟨gr, 0, none⟩)] w fun e w' => e = .returned (.int .i64 (p.open_.length : Nat)) ∧ w' = w := by
  obtain ⟨⟨S, T, h1, h2, h3, rfl⟩, h4, h5⟩ := h
  refine (R.rdepth_any w T gr r h2).mono ?_
  rintro e w' ⟨rfl, rfl⟩
  exact ⟨by rw [h5.op.size], rfl⟩

set_option maxRecDepth 100000 in
theorem fits_0 (m : Int) (w : World) :
    Calls Tryd.prog 29 #[.nilIface, .agg #[.int .i64 0, .int .i64 m, .string ⟨#[]⟩]] w fun e w' => e = .returned (.bool true) ∧ Below w.heap.size w w' := by
  have HI := Lib.hid (isAt_nil m (w.alloc (.cells #[.int .i64 0, .int .i64 m, .string ⟨#[]⟩] 39)))
  go_enter Tryd.func29, Tryd.ntmps29
  go_wp2_with fail
  refine HI.out.mono ?_
  rintro e w2 ⟨rfl, rfl⟩
  go_wp2_with fail
  go_ret
  exact ⟨rfl, (Below.refl _ _).alloc (Nat.le_refl _) _⟩
set_option maxRecDepth 100000 in
theorem fits_3 (g : Nat) (n : Int) (a : Nat → Addr) (w : World) (he : Errs w a) (hf : FaultB w g (a 2) n) :
    Calls Tryd.prog 29 #[.iface 75 (.pointer (some ⟨g, 0, none⟩)), .agg #[.int .i64 3, .int .i64 n, .string ⟨#[]⟩]] w fun e w' => e = .returned (.bool true) ∧ Below w.heap.size w w' := by
  have hb : Below w.heap.size w (w.alloc (.cells #[.int .i64 3, .int .i64 n, .string ⟨#[]⟩] 39)) := (Below.refl _ _).alloc (Nat.le_refl _) _
  have HI := Lib.hid (isAt_3 g n a (w.alloc (.cells #[.int .i64 3, .int .i64 n, .string ⟨#[]⟩] 39)) (he.below hb) (Blk.below hf hb (Blk.lt hf)) n)
  rw [beq_self_eq_true] at HI
  clear he hf
  go_enter Tryd.func29, Tryd.ntmps29
  go_wp2_with fail
  refine HI.out.mono ?_
  rintro e w2 ⟨rfl, hb2⟩
  have HB : Hid (Below w.heap.size w w2) := Lib.hid (hb.trans (hb2.mono hb.size))
  clear hb hb2
  go_wp2_with fail
  go_ret
  exact ⟨rfl, HB.out⟩
set_option maxRecDepth 100000 in
theorem fits_5 (g : Nat) (n : Int) (a : Nat → Addr) (w : World) (he : Errs w a) (hf : FaultB w g (a 4) n) :
    Calls Tryd.prog 29 #[.iface 75 (.pointer (some ⟨g, 0, none⟩)), .agg #[.int .i64 5, .int .i64 n, .string ⟨#[]⟩]] w fun e w' => e = .returned (.bool true) ∧ Below w.heap.size w w' := by
  have hb : Below w.heap.size w (w.alloc (.cells #[.int .i64 5, .int .i64 n, .string ⟨#[]⟩] 39)) := (Below.refl _ _).alloc (Nat.le_refl _) _
  have HI := Lib.hid (isAt_5 g n a (w.alloc (.cells #[.int .i64 5, .int .i64 n, .string ⟨#[]⟩] 39)) (he.below hb) (Blk.below hf hb (Blk.lt hf)) n)
  rw [beq_self_eq_true] at HI
  clear he hf
  go_enter Tryd.func29, Tryd.ntmps29
  go_wp2_with fail
  refine HI.out.mono ?_
  rintro e w2 ⟨rfl, hb2⟩
  have HB : Hid (Below w.heap.size w w2) := Lib.hid (hb.trans (hb2.mono hb.size))
  clear hb hb2
  go_wp2_with fail
  go_ret
  exact ⟨rfl, HB.out⟩
theorem fits_any (w : World) (a : Nat → Addr) (he : Errs w a) (lo : Nat) (v : Value) (c : Nat) (n m : Int) (hc : okCode c) (hv : ErrAt w a lo v c n) (hm : c ≠ 0 → m = n) :
    Calls Tryd.prog 29 #[v, .agg #[.int .i64 (c : Nat), .int .i64 m, .string ⟨#[]⟩]] w fun e w' => e = .returned (.bool true) ∧ Below w.heap.size w w' := by
  rcases hc with rfl | rfl | rfl
  · obtain rfl := err_nil hv
    exact fits_0 m w
  · obtain rfl := hm (by decide)
    obtain ⟨gf, -, rfl, hf⟩ := err_some (by decide) hv
    exact fits_3 gf m a w he hf
  · obtain rfl := hm (by decide)
    obtain ⟨gf, -, rfl, hf⟩ := err_some (by decide) hv
    exact fits_5 gf m a w he hf
end Go.Proofs.YtjfeebbhkolmoaaDoor
