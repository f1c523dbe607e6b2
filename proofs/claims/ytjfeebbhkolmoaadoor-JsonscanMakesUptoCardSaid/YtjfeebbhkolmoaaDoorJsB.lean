/- Contracts of (*jsonscan.Scanner).Close, Len, Depth and of cruciblelaw16.read. -/
import Derived.Test.YtjfeebbhkolmoaaDoorJsA
namespace Go.Proofs.YtjfeebbhkolmoaaDoor
open Go.RowKit
set_option linter.unusedVariables false

/-- the number of the error that Close tells -/
def pclose (s : Sc) : Nat := if s.bad = 0 then (if s.done = true ∧ s.open_ = [] then 0 else 3) else s.bad
def CPost (w : World) (a : Nat → Addr) (c : Nat) (n : Int) (e : Ending) (w' : World) : Prop := ∃ v, e = .returned v ∧ ErrAt w' a w.heap.size v c n ∧ Below w.heap.size w w'

set_option maxRecDepth 100000 in
set_option maxHeartbeats 1500000 in
theorem close_tell (w : World) (S : Nat → Prop) (g : Nat) (s : Sc) (a : Nat → Addr) (he : Errs w a) (hok : okCode s.bad) (h : s.bad ≠ 0) (hs : ScAt w S g s) :
    Calls Tryd.prog 20 #[.pointer (some ⟨g, 0, none⟩)] w (CPost w a s.bad s.size) := by
  have hfn := fn_nil
  have d0 := hs.cell 0 (.func (.func s.k) #[.pointer (some ⟨g, 0, none⟩)] #[]) (fun _ => rfl)
  have d3 := hs.cell 3 (.int .i64 s.size) (fun _ => rfl)
  have d4 := hs.cell 4 (.int .i64 (s.bad : Nat)) (fun _ => rfl)
  have q : (((s.bad : Nat) : Int) == 0) = false := eqF (by omega)
  have HN := Lib.hid (fault_new w.drew a (he.below ((Below.refl _ _).drew)) s.bad hok s.size)
  have d3D : ({ heap := w.heap, tape := w.tape, drawn := w.drawn + 1, os := w.os, output := w.output } : World).cell? ⟨g, 3, none⟩ = some (.int .i64 s.size) := d3
  have d4D : ({ heap := w.heap, tape := w.tape, drawn := w.drawn + 1, os := w.os, output := w.output } : World).cell? ⟨g, 4, none⟩ = some (.int .i64 (s.bad : Nat)) := d4
  clear he hok h hs
  go_enter Tryd.func20, Tryd.ntmps20
  go_wp2_with fail
  go_still_tail 8, (by kernel_rfl)
  change wpList _ _ _ _ _ w.drew
  go_wp2_with fail
  refine HN.out.mono ?_
  rintro e w2 ⟨v, rfl, hv, hb2⟩
  have HV := Lib.hid hv
  have HB2 := Lib.hid (below_undrew hb2)
  clear hv hb2
  go_wp2_with fail
  go_ret
  exact ⟨v, rfl, HV.out, HB2.out⟩

set_option maxRecDepth 100000 in
set_option maxHeartbeats 1500000 in
theorem close_good (w : World) (S : Nat → Prop) (g : Nat) (s : Sc) (a : Nat → Addr) (he : Errs w a) (h : s.bad = 0) (hd : s.done = true) (ho : s.open_ = []) (hs : ScAt w S g s) :
    Calls Tryd.prog 20 #[.pointer (some ⟨g, 0, none⟩)] w (CPost w a 0 s.size) := by
  have hfn := fn_nil
  have d0 := hs.cell 0 (.func (.func s.k) #[.pointer (some ⟨g, 0, none⟩)] #[]) (fun _ => rfl)
  have d2 := hs.cell 2 (.bool s.done) (fun _ => rfl)
  have d3 := hs.cell 3 (.int .i64 s.size) (fun _ => rfl)
  have d4 := hs.cell 4 (.int .i64 (s.bad : Nat)) (fun _ => rfl)
  obtain ⟨A, cp, d1, hcp⟩ := hs.none_ ho
  rw [h] at d4
  rw [hd] at d2
  have HN := Lib.hid (fault_new w.drew a (he.below ((Below.refl _ _).drew)) 0 (.inl rfl) s.size)
  have d3D : ({ heap := w.heap, tape := w.tape, drawn := w.drawn + 1, os := w.os, output := w.output } : World).cell? ⟨g, 3, none⟩ = some (.int .i64 s.size) := d3
  have d4D : ({ heap := w.heap, tape := w.tape, drawn := w.drawn + 1, os := w.os, output := w.output } : World).cell? ⟨g, 4, none⟩ = some (.int .i64 ((0 : Nat) : Int)) := d4
  clear he h hd ho hs
  go_enter Tryd.func20, Tryd.ntmps20
  go_wp2_with fail
  go_still_tail 8, (by kernel_rfl)
  change wpList _ _ _ _ _ w.drew
  go_wp2_with fail
  refine HN.out.mono ?_
  rintro e w2 ⟨v, rfl, hv, hb2⟩
  have HV := Lib.hid hv
  have HB2 := Lib.hid (below_undrew hb2)
  clear hv hb2
  go_wp2_with fail
  go_ret
  exact ⟨v, rfl, HV.out, HB2.out⟩

theorem ScAt.cell1 {w : World} {S : Nat → Prop} {g : Nat} {s : Sc} (h : ScAt w S g s) : ∃ A cp, w.cell? ⟨g, 1, none⟩ = some (.slice A s.open_.length cp) ∧ s.open_.length ≤ cp ∧ cp ≤ 9223372036854775807 := by
  obtain ⟨v, hb, ho, -⟩ := h
  obtain ⟨A, c, rfl, h1, h2, h3, h4⟩ := own_rd ho
  exact ⟨A, c, hb.cell 1, h1, h2⟩

set_option maxRecDepth 100000 in
set_option maxHeartbeats 1500000 in
theorem close_amid (w : World) (S : Nat → Prop) (g : Nat) (s : Sc) (a : Nat → Addr) (he : Errs w a) (h : s.bad = 0) (hn : s.done = false ∨ (s.done = true ∧ s.open_ ≠ [])) (hs : ScAt w S g s) :
    Calls Tryd.prog 20 #[.pointer (some ⟨g, 0, none⟩)] w (CPost w a 3 s.size) := by
  have hfn := fn_nil
  have d0 := hs.cell 0 (.func (.func s.k) #[.pointer (some ⟨g, 0, none⟩)] #[]) (fun _ => rfl)
  have d2 := hs.cell 2 (.bool s.done) (fun _ => rfl)
  have d3 := hs.cell 3 (.int .i64 s.size) (fun _ => rfl)
  have d4 := hs.cell 4 (.int .i64 (s.bad : Nat)) (fun _ => rfl)
  obtain ⟨A, cp, d1, hcp, hcp2⟩ := hs.cell1
  rw [h] at d4
  have HN := Lib.hid (fault_new w a he 3 (.inr (.inl rfl)) s.size)
  clear he h
  rcases hn with hn | ⟨hn, ho⟩
  · rw [hn] at d2
    clear hn hs
    go_enter Tryd.func20, Tryd.ntmps20
    go_wp2_with fail
    refine HN.out.mono ?_
    rintro e w2 ⟨v, rfl, hv, hb2⟩
    have HV := Lib.hid hv
    have HB2 := Lib.hid hb2
    clear hv hb2
    go_wp2_with fail
    go_ret
    exact ⟨v, rfl, HV.out, HB2.out⟩
  · rw [hn] at d2
    have hl : ((s.open_.length : Int) == 0) = false := eqF (by
      intro h0
      apply ho
      exact List.eq_nil_of_length_eq_zero (by omega))
    clear hn hs ho
    go_enter Tryd.func20, Tryd.ntmps20
    go_wp2_with fail
    refine HN.out.mono ?_
    rintro e w2 ⟨v, rfl, hv, hb2⟩
    have HV := Lib.hid hv
    have HB2 := Lib.hid hb2
    clear hv hb2
    go_wp2_with fail
    go_ret
    exact ⟨v, rfl, HV.out, HB2.out⟩

theorem close_any (w : World) (S : Nat → Prop) (g : Nat) (s : Sc) (a : Nat → Addr) (he : Errs w a) (hok : okCode s.bad) (hs : ScAt w S g s) :
    Calls Tryd.prog 20 #[.pointer (some ⟨g, 0, none⟩)] w (CPost w a (pclose s) s.size) := by
  unfold pclose
  by_cases h : s.bad = 0
  · rw [if_pos h]
    by_cases hd : s.done = true ∧ s.open_ = []
    · rw [if_pos hd]; exact close_good w S g s a he h hd.1 hd.2 hs
    · rw [if_neg hd]
      refine close_amid w S g s a he h ?_ hs
      cases hdd : s.done
      · exact .inl rfl
      · exact .inr ⟨rfl, fun ho => hd ⟨hdd, ho⟩⟩
  · rw [if_neg h]; exact close_tell w S g s a he hok h hs

set_option maxRecDepth 100000 in
theorem len_any (w : World) (S : Nat → Prop) (g : Nat) (s : Sc) (hs : ScAt w S g s) :
    Calls Tryd.prog 19 #[.pointer (some ⟨g, 0, none⟩)] w fun e w' => e = .returned (.int .i64 s.size) ∧ w = w' := by
  have d3 := hs.cell 3 (.int .i64 s.size) (fun _ => rfl)
  clear hs
  go_enter Tryd.func19, Tryd.ntmps19
  go_wp2_with fail
  go_ret
  exact ⟨rfl, rfl⟩

set_option maxRecDepth 100000 in
theorem depth_any (w : World) (S : Nat → Prop) (g : Nat) (s : Sc) (hs : ScAt w S g s) :
    Calls Tryd.prog 21 #[.pointer (some ⟨g, 0, none⟩)] w fun e w' => e = .returned (.int .i64 (s.open_.length : Nat)) ∧ w = w' := by
  obtain ⟨A, cp, d1, hcp, hcp2⟩ := hs.cell1
  clear hs
  go_enter Tryd.func21, Tryd.ntmps21
  go_wp2_with fail
  go_ret
  exact ⟨rfl, rfl⟩

theorem S1_eq {g i : Nat} (h : S1 g i) : i = g := by
  rcases h with h | h
  · exact h
  · cases h
theorem sent_new {w : World} {a : Nat → Addr} (he : Errs w a) : sentBlocks a (S1 w.heap.size) := by
  intro i hi
  obtain rfl := S1_eq hi
  refine ⟨he.low, fun k hk e => ?_⟩
  obtain ⟨c, t, ee⟩ := he.blk k hk
  have := (Array.getElem?_eq_some_iff.1 ee).1
  omega
/-- a text by a new Scanner -/
def prd (s : ByteArray) : Sc := pwrite Sc0 (bnat s)
theorem Sc0_good : Good Sc0 := ⟨.inl rfl, fun _ => Sc0_in⟩
theorem prd_good (s : ByteArray) : Good (prd s) := write_good Sc0 _ Sc0_good
theorem prd_size (s : ByteArray) : 0 ≤ (prd s).size ∧ (prd s).size ≤ s.size := by
  have h := write_size Sc0 (bnat s)
  rw [bnat_len] at h
  unfold prd
  have e : Sc0.size = 0 := rfl
  rw [e] at h
  omega
theorem pclose_ok (s : Sc) (h : okCode s.bad) : okCode (pclose s) := by
  unfold pclose
  split
  · split
    · exact .inl rfl
    · exact .inr (.inl rfl)
  · exact h
/-- what read leaves -/
def RdPost (w : World) (a : Nat → Addr) (s : Sc) (e : Ending) (w' : World) : Prop :=
  ∃ v, e = .returned (.tuple #[v, .int .i64 s.size, .int .i64 (s.open_.length : Nat)]) ∧ ErrAt w' a w.heap.size v (pclose s) s.size ∧ Below w.heap.size w w'

set_option maxRecDepth 100000 in
set_option maxHeartbeats 1500000 in
theorem read_any (w : World) (chunk : ByteArray) (a : Nat → Addr) (he : Errs w a) (hsz : chunk.size ≤ 9223372036854775806) :
    Calls Tryd.prog 16 #[.string chunk] w (RdPost w a (prd chunk)) := by
  have HE := Lib.hid he
  have HSZ := Lib.hid hsz
  clear he hsz
  go_enter Tryd.func16, Tryd.ntmps16
  go_wp2_with fail
  refine (new_any w).mono ?_
  rintro e w1 ⟨rfl, hs1, hb1⟩
  have HB1 := Lib.hid hb1
  have HW := Lib.hid (write_any w1 (S1 w.heap.size) w.heap.size Sc0 chunk a (HE.out.below hb1) (sent_new HE.out) Sc0_good (Int.le_refl 0) (by have := HSZ.out; show (0 : Int) + _ ≤ _; omega) hs1)
  clear hs1 hb1
  go_wp2_with fail
  refine HW.out.mono ?_
  rintro e w2 ⟨v, rfl, hv, S2, hs2, hk2, hf2⟩
  have HV := Lib.hid hv
  have HS2 := Lib.hid hs2
  have HB2 : Hid (Below w.heap.size w w2) := Lib.hid (HB1.out.trans (hk2.below_ (fun i hi => by rw [S1_eq hi]; exact Nat.le_refl _) HB1.out.size))
  have hst := write_good Sc0 (bnat chunk) Sc0_good
  clear hv hs2 hk2 hf2 HW
  change Hid (ScAt w2 S2 w.heap.size (prd chunk)) at HS2
  change Hid (ErrAt w2 a w1.heap.size v (prd chunk).bad (prd chunk).size) at HV
  change Good (prd chunk) at hst
  generalize prd chunk = st at *
  by_cases h0 : st.bad = 0
  · have hv0 : v = .nilIface := by
      rcases HV.out with ⟨-, h⟩ | ⟨h, -⟩
      · exact h
      · exact absurd h0 h
    subst hv0
    have HC := Lib.hid (close_any w2 S2 w.heap.size st a (HE.out.below HB2.out) hst.1 HS2.out)
    clear h0 hst
    go_wp2_with fail
    refine HC.out.mono ?_
    rintro e w3 ⟨v3, rfl, hv3, hb3⟩
    have HV3 := Lib.hid hv3
    have HB3 : Hid (Below w.heap.size w w3) := Lib.hid (HB2.out.trans (hb3.mono HB2.out.size))
    have HS3 := Lib.hid (HS2.out.keeps (T := fun _ => False) (Keeps.of_below hb3) (fun _ _ h => h))
    have HL := Lib.hid (len_any w3 S2 w.heap.size st HS3.out)
    have HD := Lib.hid (depth_any w3 S2 w.heap.size st HS3.out)
    clear hv3 hb3
    go_wp2_with fail
    refine HL.out.mono ?_
    rintro e w4 ⟨rfl, rfl⟩
    go_wp2_with fail
    refine HD.out.mono ?_
    rintro e w4 ⟨rfl, rfl⟩
    go_wp2_with fail
    go_ret3
    exact ⟨v3, rfl, HV3.out.mono HB2.out.size, HB3.out⟩
  · have hpc : pclose st = st.bad := if_neg h0
    obtain ⟨gf, hgf, hv0, hff⟩ : ∃ gf, w1.heap.size ≤ gf ∧ v = .iface 75 (.pointer (some ⟨gf, 0, none⟩)) ∧ FaultB w2 gf (a (st.bad - 1)) st.size := by
      rcases HV.out with ⟨h, -⟩ | ⟨-, h⟩
      · exact absurd h h0
      · exact h
    subst hv0
    have HL := Lib.hid (len_any w2 S2 w.heap.size st HS2.out)
    have HD := Lib.hid (depth_any w2 S2 w.heap.size st HS2.out)
    have HPC := Lib.hid hpc
    clear h0 hst hff hgf hpc
    go_wp2_with fail
    refine HL.out.mono ?_
    rintro e w4 ⟨rfl, rfl⟩
    go_wp2_with fail
    refine HD.out.mono ?_
    rintro e w4 ⟨rfl, rfl⟩
    go_wp2_with fail
    go_ret3
    exact ⟨_, rfl, by rw [HPC.out]; exact HV.out.mono HB1.out.size, HB2.out⟩
end Go.Proofs.YtjfeebbhkolmoaaDoor
