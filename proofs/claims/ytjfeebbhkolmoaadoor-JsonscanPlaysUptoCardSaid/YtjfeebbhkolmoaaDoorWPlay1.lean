/- does and all of cruciblelaw16, at the program's scanner beside the document's. -/
import Derived.Test.YtjfeebbhkolmoaaDoorWPlay0
namespace Go.Proofs.YtjfeebbhkolmoaaDoor
open Go.RowKit
set_option linter.unusedVariables false

theorem Keeps.undrewN {U : Nat → Prop} {w w' : World} {n : Nat} (h : Keeps U (w.drewN n) w') : Keeps U w w' := ⟨h.os, h.tape, h.output, h.size, h.block⟩
theorem Keeps.cellOf {U : Nat → Prop} {w w' : World} (h : Keeps U w w') {b o : Nat} {v : Value} (hc : w.cell? ⟨b, o, none⟩ = some v) (hn : ¬ U b) : w'.cell? ⟨b, o, none⟩ = some v := by
  have hb := h.block b (World.block_lt_of_cell? w _ hc) hn
  exact (World.cell?_of_block (a := ⟨b, o, none⟩) hb).trans hc
theorem PairLeft.of_below {w w1 w2 : World} {a : Nat → Addr} {U : Nat → Prop} {gt gr : Nat} {p : Sc} {r : R.St} (h : PairLeft w a U gt gr p r w1) (hb : Below w1.heap.size w1 w2) : PairLeft w a U gt gr p r w2 := by
  obtain ⟨U2, h1, h2, h3⟩ := h
  exact ⟨U2, h1.below hb, h2.trans (Keeps.of_below (S := fun _ => False) hb) (fun _ h => h.elim), h3⟩
theorem PairLeft.undrewN {w w1 : World} {a : Nat → Addr} {U : Nat → Prop} {gt gr : Nat} {p : Sc} {r : R.St} {n : Nat} (h : PairLeft (w.drewN n) a U gt gr p r w1) : PairLeft w a U gt gr p r w1 := by
  obtain ⟨U2, h1, h2, h3⟩ := h
  exact ⟨U2, h1, h2.undrewN, h3⟩
/-- what does leaves: some pair, no longer than it may be -/
def DoesPost (w : World) (a : Nat → Addr) (U : Nat → Prop) (gt gr : Nat) (p : Sc) (z : Int) (e : Ending) (w' : World) : Prop :=
  e = .returned (.bool true) ∧ ∃ p' r', PairLeft w a U gt gr p' r' w' ∧ p'.size ≤ p.size + z

set_option maxRecDepth 100000 in
set_option maxHeartbeats 3000000 in
theorem does_any (gb o gt gr : Nat) (k on : Int) (ch : ByteArray) (a : Nat → Addr) (w : World) (U : Nat → Prop) (p : Sc) (r : R.St) (he : Errs w a) (h : PairAt w a U gt gr p r) (hc0 : w.cell? ⟨gb, o, none⟩ = some (.pointer (some ⟨gt, 0, none⟩))) (hc1 : w.cell? ⟨gb, o + 1, none⟩ = some (.pointer (some ⟨gr, 0, none⟩))) (hU : ¬ U gb) (hsz : p.size + ch.size ≤ most) :
    Calls Tryd.prog 13 #[.pointer (some ⟨gb, o, none⟩), .agg #[.int .i64 k, .int .i64 on, .string ch]] w (DoesPost w a U gt gr p ch.size) := by
  have hgb := World.block_lt_of_cell? w _ hc0
  generalize hwx : w.alloc (.cells #[.int .i64 k, .int .i64 on, .string ch] 31) = wx
  have BX : Hid (Below w.heap.size w wx) := Lib.hid (hwx ▸ (Below.refl _ _).alloc (Nat.le_refl _) _)
  have KX : Hid (Keeps U w wx) := Lib.hid (Keeps.of_below BX.out)
  have HX : Hid (Blk wx w.heap.size 31 #[.int .i64 k, .int .i64 on, .string ch]) := Lib.hid (hwx ▸ Blk.new w _ _)
  have HSZ := Lib.hid hsz
  have HU := Lib.hid h.sent
  have HBE := Lib.hid h.bes
  have PX : Hid (∀ n, PairAt (wx.drewN n) a U gt gr p r) := Lib.hid (fun n => (h.below BX.out).below (below_drewN' (Below.refl _ _) n))
  have EX : Hid (∀ n, Errs (wx.drewN n) a) := Lib.hid (fun n => (he.below BX.out).below (below_drewN' (Below.refl _ _) n))
  have EK : Hid (∀ wy, Keeps U (wx.drewN 1) wy → Errs wy a) := Lib.hid (fun wy hk => (EX.out 1).keeps hk h.sent)
  have c0 := KX.out.cellOf hc0 hU
  have c1 := KX.out.cellOf hc1 hU
  have x0 := HX.out.cell 0
  have x2 := HX.out.cell 2
  simp at x0 x2
  have hnew : ¬ U w.heap.size := fun hu => by have := h.lt _ hu; omega
  have KS : Hid (∀ wy, Keeps U (wx.drewN 1) wy → wy.cell? ⟨gb, o, none⟩ = some (.pointer (some ⟨gt, 0, none⟩)) ∧ wy.cell? ⟨gb, o + 1, none⟩ = some (.pointer (some ⟨gr, 0, none⟩)) ∧ wy.cell? ⟨w.heap.size, 2, none⟩ = some (.string ch)) :=
    Lib.hid (fun wy hk => ⟨hk.undrewN.cellOf c0 hU, hk.undrewN.cellOf c1 hU, hk.undrewN.cellOf x2 hnew⟩)
  have KB : Hid (∀ wy wz, Keeps U (wx.drewN 1) wy → Below wy.heap.size wy wz → Keeps U (wx.drewN 1) wz) := Lib.hid (fun wy wz hk hb => hk.trans (Keeps.of_below (S := fun _ => False) hb) (fun _ h => h.elim))
  have KD : Hid (∀ n, Keeps U (wx.drewN 1) (wx.drewN n)) := Lib.hid (fun n => ⟨rfl, rfl, rfl, Nat.le_refl _, fun _ _ _ => rfl⟩)
  have LT : Hid (∀ i, U i → i < wx.heap.size) := Lib.hid (fun i hi => by have := h.lt i hi; have := KX.out.size; omega)
  have FIN : Hid (∀ wy p' r', PairLeft (wx.drewN 1) a U gt gr p' r' wy → PairLeft w a U gt gr p' r' wy) := Lib.hid (fun wy p' r' hl => PairLeft.trans KX.out (Fresh.refl _ _) hl.undrewN)
  have FIN0 : Hid (∀ wy, Below wx.heap.size wx wy → PairLeft w a U gt gr p r wy) := Lib.hid (fun wy hb => PairLeft.stay h (BX.out.trans (hb.mono BX.out.size)))
  clear he h hc0 hc1 hsz hgb hU hnew
  go_enter Tryd.func13, Tryd.ntmps13
  by_cases k1 : k = 1
  · subst k1
    go_upto_region 3 with fail
    go_region_held3 (fun w' => w'.cell? ⟨gb, o, none⟩ = some (.pointer (some ⟨gt, 0, none⟩)) ∧ w'.cell? ⟨gb, o + 1, none⟩ = some (.pointer (some ⟨gr, 0, none⟩)) ∧ w'.cell? ⟨w.heap.size, 2, none⟩ = some (.string ch))
      (first
        | exact ⟨c0, c1, x2⟩
        | exact KS.out _ K3.out
        | exact KS.out _ K2.out
        | exact KS.out _ K1.out)
      (first
        | (go_at_call 17; refine (pair_write (EX.out 1) (PX.out 1) ch HSZ.out).mono ?_; rintro e w1 ⟨v, rfl, hm⟩; have M1 := Lib.hid hm; have K1 := Lib.hid hm.keeps; clear hm)
        | (go_at_call 30; refine (mid_write ch (EX.out 1) HU.out HBE.out HSZ.out M1.out).mono ?_; rintro e w2 ⟨rfl, hv2, hl2⟩; have K2 : Hid (Keeps U (wx.drewN 1) w2) := Lib.hid (by obtain ⟨_, _, hk, _⟩ := hl2; exact hk); have V2 := Lib.hid hv2; have L2 := Lib.hid hl2; clear hv2 hl2)
        | (go_at_call 29; refine (fits_any _ a (EK.out _ K2.out) _ v _ _ _ (HBE.out.write (bnat ch)).good.1 V2.out (fun hne => ((HBE.out.write (bnat ch)).place hne).trans (HBE.out.write (bnat ch)).size.symm)).mono ?_; rintro e w3 ⟨rfl, h3⟩; have B3 := Lib.hid h3; have K3 := Lib.hid (KB.out _ _ K2.out h3); clear h3))
    all_goals
      go_wp2_with fail
      go_ret
      exact ⟨rfl, _, _, FIN.out _ _ _ (L2.out.of_below B3.out), by have := (write_size p (bnat ch)).2; rw [bnat_len] at this; exact this⟩
  have q1 : (k == 1) = false := by rw [beq_eq_false_iff_ne]; exact k1
  by_cases k2 : k = 2
  · subst k2
    go_upto_region 5 with fail
    go_region_held3 (fun w' => w'.cell? ⟨gb, o, none⟩ = some (.pointer (some ⟨gt, 0, none⟩)) ∧ w'.cell? ⟨gb, o + 1, none⟩ = some (.pointer (some ⟨gr, 0, none⟩)) ∧ w'.cell? ⟨w.heap.size, 2, none⟩ = some (.string ch))
      (first
        | exact ⟨c0, c1, x2⟩
        | exact KS.out _ K3.out
        | exact KS.out _ K2.out
        | exact KS.out _ K1.out)
      (first
        | (go_at_call 20; refine (pair_close (EX.out 1) (PX.out 1)).mono ?_; rintro e w1 ⟨v, rfl, hv, hb⟩; have V1 := Lib.hid hv; have B1 := Lib.hid hb; have K1 := Lib.hid (KB.out _ _ (KD.out 1) hb); have P1 := Lib.hid ((PX.out 1).below hb); clear hv hb)
        | (go_at_call 31; refine (pair_rclose (EK.out _ K1.out) P1.out).mono ?_; rintro e w2 ⟨rfl, hl2⟩; have K2 : Hid (Keeps U (wx.drewN 1) w2) := Lib.hid (by obtain ⟨_, _, hk, _⟩ := hl2; exact K1.out.trans hk (Fresh.refl _ _)); have V2 : Hid (ErrAt w2 a wx.heap.size v (pclose p) p.size) := Lib.hid (by obtain ⟨_, _, hk, _⟩ := hl2; exact V1.out.keeps hk LT.out); have L2 := Lib.hid (PairLeft.trans K1.out (Fresh.refl _ _) hl2); clear hl2)
        | (go_at_call 29; refine (fits_any _ a (EK.out _ K2.out) _ v _ _ _ (pclose_ok p HBE.out.good.1) V2.out (fun hne => HBE.out.close.2 hne)).mono ?_; rintro e w3 ⟨rfl, h3⟩; have B3 := Lib.hid h3; have K3 := Lib.hid (KB.out _ _ K2.out h3); clear h3))
    all_goals
      go_wp2_with fail
      go_ret
      exact ⟨rfl, _, _, FIN.out _ _ _ (L2.out.of_below B3.out), by omega⟩
  have q2 : (k == 2) = false := by rw [beq_eq_false_iff_ne]; exact k2
  by_cases k3 : k = 3
  · subst k3
    go_upto_region 7 with fail
    go_region_held3 (fun w' => w'.cell? ⟨gb, o, none⟩ = some (.pointer (some ⟨gt, 0, none⟩)) ∧ w'.cell? ⟨gb, o + 1, none⟩ = some (.pointer (some ⟨gr, 0, none⟩)) ∧ w'.cell? ⟨w.heap.size, 2, none⟩ = some (.string ch))
      (first
        | exact ⟨c0, c1, x2⟩
        | exact KS.out _ (KD.out 1))
      (first
        | (go_at_call 19; refine (pair_len (PX.out 1)).mono ?_; rintro e w' ⟨rfl, rfl⟩)
        | (go_at_call 32; refine (pair_rlen (PX.out 1)).mono ?_; rintro e w2 ⟨rfl, rfl⟩))
    all_goals
      go_wp2_with fail
      go_ret
      exact ⟨by simp, _, _, FIN0.out _ (below_drewN' (Below.refl _ _) 1), by omega⟩
  have q3 : (k == 3) = false := by rw [beq_eq_false_iff_ne]; exact k3
  by_cases k4 : k = 4
  · subst k4
    go_upto_region 9 with fail
    go_region_held3 (fun w' => w'.cell? ⟨gb, o, none⟩ = some (.pointer (some ⟨gt, 0, none⟩)) ∧ w'.cell? ⟨gb, o + 1, none⟩ = some (.pointer (some ⟨gr, 0, none⟩)) ∧ w'.cell? ⟨w.heap.size, 2, none⟩ = some (.string ch))
      (first
        | exact ⟨c0, c1, x2⟩
        | exact KS.out _ (KD.out 1))
      (first
        | (go_at_call 21; refine (pair_depth (PX.out 1)).mono ?_; rintro e w' ⟨rfl, rfl⟩)
        | (go_at_call 33; refine (pair_rdepth (PX.out 1)).mono ?_; rintro e w2 ⟨rfl, rfl⟩))
    all_goals
      go_wp2_with fail
      go_ret
      exact ⟨by simp, _, _, FIN0.out _ (below_drewN' (Below.refl _ _) 1), by omega⟩
  have q4 : (k == 4) = false := by rw [beq_eq_false_iff_ne]; exact k4
  go_wp2_with fail
  go_ret
  exact ⟨rfl, _, _, FIN0.out _ (Below.refl _ _), by omega⟩
end Go.Proofs.YtjfeebbhkolmoaaDoor
