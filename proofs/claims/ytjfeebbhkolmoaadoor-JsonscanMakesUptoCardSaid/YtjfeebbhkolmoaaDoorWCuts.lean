/- The walk of cruciblelaw16.JsonscanCuts. -/
import Derived.Test.YtjfeebbhkolmoaaDoorJsD
namespace Go.Proofs.YtjfeebbhkolmoaaDoor
open Go.RowKit
set_option linter.unusedVariables false

theorem bnat_extract (s : ByteArray) (i n : Nat) (h : i + n ≤ s.size) : (bnat s).take i ++ bnat (s.extract i (i + n)) = (bnat s).take (i + n) := by
  have e : bnat (s.extract i (i + n)) = ((bnat s).drop i).take n := by
    unfold bnat
    rw [Lib.extract_eq, show i + n - i = n by omega]
    simp [List.map_take, List.map_drop]
  rw [e, List.take_add]
theorem pwrite_piece (s : ByteArray) (i n : Nat) (h : i + n ≤ s.size) : pwrite (pwrite Sc0 ((bnat s).take i)) (bnat (s.extract i (i + n))) = pwrite Sc0 ((bnat s).take (i + n)) := by
  rw [← pwrite_app, bnat_extract s i n h]
theorem feed_full (s : Sc) (c : Nat) (h : (pfeed s c).bad = 0) : s.bad = 0 ∧ (pfeed s c).size = s.size + 1 := by
  unfold pfeed at *
  by_cases h0 : s.bad = 0
  · rw [if_pos h0] at h ⊢
    have h : (pstep s c).2 = 0 := h
    refine ⟨h0, ?_⟩
    show (if (pstep s c).2 = 0 then (pstep s c).1.size + 1 else (pstep s c).1.size) = s.size + 1
    rw [if_pos h, (pstep_okc s c).2.1]
  · rw [if_neg h0] at h; exact absurd h h0
theorem write_full (s : Sc) (l : List Nat) (h : (pwrite s l).bad = 0) : s.bad = 0 ∧ (pwrite s l).size = s.size + l.length := by
  induction l generalizing s with
  | nil => exact ⟨h, by simp [pwrite]⟩
  | cons x l ih =>
    obtain ⟨h1, h2⟩ := ih (pfeed s x) h
    obtain ⟨h3, h4⟩ := feed_full s x h1
    refine ⟨h3, ?_⟩
    show (pwrite (pfeed s x) l).size = s.size + ((l.length + 1 : Nat) : Int)
    rw [h2, h4]
    omega

theorem Rd.val {w : World} {A : Option Addr} {k : IntKind} {xs : List Nat} (h : Rd w A (vals k xs)) {i : Nat} (hi : i < xs.length) : ∃ b off, A = some ⟨b, off, none⟩ ∧ w.cell? ⟨b, off + i, none⟩ = some (.int k ((xs.getD i 0 : Nat) : Int)) := h.at_ (vals_get k xs i hi)
def CRel (w2 : World) (a : Nat → Addr) (s : ByteArray) (n : Nat) (v9 v10 : Value) (wr : World) : Prop :=
  ∃ at_ i : Nat, v9 = .int .i64 at_ ∧ v10 = .int .i64 i ∧ at_ ≤ s.size ∧ i ≤ n ∧ Own w2 a w2.heap.size (pwrite Sc0 ((bnat s).take at_)) wr

set_option maxRecDepth 100000 in
set_option maxHeartbeats 3000000 in
theorem wcuts (s : ByteArray) (hs : s.size ≤ 1048576) (A : Option Addr) (cp : Nat) (zs : List Nat) (a : Nat → Addr) (w : World) (hr : Rd w A (vals .u8 zs)) (hz : ∀ z ∈ zs, z < 256) (hzl : zs.length ≤ 1048576) (he : Errs w a) :
    Calls Tryd.prog 6 #[.string s, .slice A zs.length cp] w fun e w' => e = .returned (.bool true) ∧ Below w.heap.size w w' := by
  have HE := Lib.hid he
  have HR := Lib.hid hr
  have HZ := Lib.hid hz
  have HL := Lib.hid (lives_any a w he)
  have hs63 : s.size ≤ 9223372036854775806 := by omega
  have HRD := Lib.hid (fun wx (hb : Below w.heap.size w wx) => read_any wx s a (he.below hb) hs63)
  clear he hr hz hs63
  go_enter Tryd.func6, Tryd.ntmps6
  go_wp2_with fail
  refine HL.out.mono ?_
  rintro e w1 ⟨rfl, hb1⟩
  have HB1 := Lib.hid hb1
  clear hb1
  go_wp2_with fail
  refine (HRD.out w1 HB1.out).mono ?_
  rintro e w2 ⟨verr, rfl, hverr, hb2⟩
  have HV := Lib.hid hverr
  have HB2 : Hid (Below w.heap.size w w2) := Lib.hid (HB1.out.trans (hb2.mono HB1.out.size))
  clear hverr hb2
  go_wp2_with fail
  refine (new_any w2).mono ?_
  rintro e w3 ⟨rfl, hs3, hb3⟩
  have HE2 := Lib.hid (HE.out.below HB2.out)
  have O3 := Lib.hid (Own.new HE2.out (Below.refl _ _) hs3 hb3)
  clear hs3 hb3
  go_wp2_with fail
  go_loopw [9, 10] (fun v9 v10 wr => CRel w2 a s zs.length v9 v10 wr) (fun _ v10 _ => zs.length - (intOf v10).toNat)
  case atStart => exact ⟨0, 0, rfl, rfl, Nat.zero_le _, Nat.zero_le _, O3.out⟩
  case round =>
    obtain ⟨at_, i, rfl, rfl, hat, hi, ho⟩ := hrel
    have O4 := Lib.hid ho
    clear ho
    by_cases hgo : i < zs.length ∧ at_ < s.size
    · obtain ⟨hlt, hlt2⟩ := hgo
      obtain ⟨b, off, rfl, hc⟩ := (HR.out.below (HB2.out.trans (O4.out.bel.mono HB2.out.size))).val hlt
      have hzb : zs.getD i 0 < 256 := by
        have := HZ.out (zs[i]) (List.getElem_mem hlt)
        simpa [hlt] using this
      generalize zs.getD i 0 = z at *
      have hpz : pclose (prd s) = (prd s).bad ∨ (prd s).bad = 0 := by
        unfold pclose
        by_cases h : (prd s).bad = 0
        · exact .inr h
        · exact .inl (if_neg h)
      have HPZ := Lib.hid hpz
      have key : ∃ n : Nat, at_ + n ≤ s.size ∧ (((z : Int) % 9 = (n : Int) ∧ (n : Int) ≤ (s.size : Int) - at_) ∨ ((s.size : Int) - at_ = (n : Int) ∧ ¬ (z : Int) % 9 ≤ (n : Int))) := by
        by_cases hm : (z : Int) % 9 ≤ (s.size : Int) - at_
        · exact ⟨z % 9, by omega, .inl ⟨by omega, by omega⟩⟩
        · exact ⟨s.size - at_, by omega, .inr ⟨by omega, by omega⟩⟩
      obtain ⟨n, hn, hkey⟩ := key
      have e1 : ((at_ : Int) + n).toNat = at_ + n := by omega
      have hpc := pwrite_piece s at_ n hn
      have hsz := write_size Sc0 ((bnat s).take at_)
      have hlen : ((bnat s).take at_).length = at_ := by rw [List.length_take, bnat_len]; omega
      have hlen2 : ((bnat s).take (at_ + n)).length = at_ + n := by rw [List.length_take, bnat_len]; omega
      have hex : (s.extract at_ (at_ + n)).size = n := by simp; omega
      have z0 : Sc0.size = 0 := rfl
      rw [hlen, z0] at hsz
      have HW := Lib.hid (own_write HE2.out O4.out (s.extract at_ (at_ + n)) (write_good Sc0 _ Sc0_good) (by omega) (by rw [hex]; omega))
      rw [hpc] at HW
      have hsz2 := write_size Sc0 ((bnat s).take (at_ + n))
      rw [hlen2, z0] at hsz2
      have hg2 := write_good Sc0 ((bnat s).take (at_ + n)) Sc0_good
      have hful := write_full Sc0 ((bnat s).take (at_ + n))
      rw [hlen2, z0] at hful
      have hbad := pwrite_take_bad Sc0 (bnat s) (at_ + n)
      change (pwrite Sc0 ((bnat s).take (at_ + n))).bad ≠ 0 → prd s = _ at hbad
      have HREL : Hid (∀ wx, Own w2 a w2.heap.size (pwrite Sc0 ((bnat s).take (at_ + n))) wx → CRel w2 a s zs.length (.int .i64 (at_ + n : Nat)) (.int .i64 (i + 1 : Nat)) wx) := Lib.hid (fun wx h => ⟨at_ + n, i + 1, rfl, rfl, hn, hlt, h⟩)
      obtain ⟨st, hst⟩ : ∃ st, pwrite Sc0 ((bnat s).take (at_ + n)) = st := ⟨_, rfl⟩
      rw [hst] at HW hsz2 hg2 hful hbad HREL
      have HST := Lib.hid (fun wx (h : Own w2 a w2.heap.size st wx) => own_len h)
      have HCL := Lib.hid (fun wx (h : Own w2 a w2.heap.size st wx) => own_close HE2.out h hg2)
      have HDE := Lib.hid (fun wx (h : Own w2 a w2.heap.size st wx) => own_depth h)
      have hsle : st.size ≤ (at_ : Int) + n := by omega
      have HSLE := Lib.hid hsle
      have HZL : Hid (i < zs.length) := Lib.hid hlt
      by_cases hb0 : st.bad = 0
      · have hz1 : st.size = (at_ : Int) + n := by have := (hful hb0).2; omega
        rw [hz1] at HST
        have HB0 := Lib.hid hb0
        have HZ1 := Lib.hid hz1
        clear hb0 hz1 hpc hsz hlen hlen2 hex z0 hsz2 hg2 hful hbad hst hpz hsle
        have q1 : (((at_ : Int) + n) != (at_ : Int) + n) = false := by simp
        rcases hkey with ⟨hk1, hk2⟩ | ⟨hk1, hk2⟩
        all_goals
          go_wp2_with fail
          refine HW.out.mono ?_
          rintro e w4 ⟨v, rfl, hv, ho⟩
          rw [HB0.out] at hv
          obtain rfl := err_nil hv
          have O5 := Lib.hid ho
          clear hv ho
          go_wp2_with fail
          refine (HST.out w4 O5.out).mono ?_
          rintro e w5 ⟨rfl, rfl⟩
          go_wp2_with fail
          refine (HST.out w4 O5.out).mono ?_
          rintro e w5 ⟨rfl, rfl⟩
          go_wp2_with fail
          refine (HCL.out w4 O5.out).mono ?_
          rintro e w5 ⟨v5, rfl, -, ho5, -⟩
          have O6 := Lib.hid ho5
          clear ho5
          go_wp2_with fail
          refine (HDE.out w5 O6.out).mono ?_
          rintro e w6 ⟨rfl, rfl⟩
          go_wp2_with fail
          go_roundw
          case rel => exact HREL.out _ O6.out
          case measure => have := HZL.out; simp [intOf]; omega
      · have hps := hbad hb0
        have hcode : pclose (prd s) = st.bad := by rw [hps]; exact if_neg hb0
        have hsize : (prd s).size = st.size := by rw [hps]
        rw [hcode, hsize] at HV
        have HSM := Lib.hid (fun wx (h : Own w2 a w2.heap.size st wx) (gf : Nat) lu (hu : ErrAt wx a lu (.iface 75 (.pointer (some ⟨gf, 0, none⟩))) st.bad st.size) => same_any a wx (HE2.out.below h.bel) _ verr lu w1.heap.size st.bad st.size hg2.1 hu (HV.out.below h.bel))
        have HB0 := Lib.hid hb0
        unfold OWPost at HW
        generalize hszz : st.size = zz at *
        have q2 : zz ≤ (at_ : Int) + n := hsle
        clear hb0 hpc hsz hlen hlen2 hex z0 hsz2 hg2 hful hbad hst hpz hps hcode hsize hsle hszz
        rcases hkey with ⟨hk1, hk2⟩ | ⟨hk1, hk2⟩
        all_goals
          go_wp2_with fail
          refine HW.out.mono ?_
          rintro e w4 ⟨v, rfl, hv, ho⟩
          obtain ⟨gf, -, rfl, hff⟩ := err_some HB0.out hv
          have O5 := Lib.hid ho
          have HS5 := Lib.hid (HSM.out w4 ho gf _ hv)
          clear hv ho hff
          go_wp2_with fail
          refine HS5.out.mono ?_
          rintro e w5 ⟨rfl, hb5⟩
          have O6 := Lib.hid (O5.out.below hb5)
          clear hb5
          go_wp2_with fail
          refine (HST.out w5 O6.out).mono ?_
          rintro e w6 ⟨rfl, rfl⟩
          go_wp2_with fail
          refine (HCL.out w5 O6.out).mono ?_
          rintro e w6 ⟨v5, rfl, -, ho5, -⟩
          have O7 := Lib.hid ho5
          clear ho5
          go_wp2_with fail
          refine (HDE.out w6 O7.out).mono ?_
          rintro e w7 ⟨rfl, rfl⟩
          go_wp2_with fail
          go_roundw
          case rel => exact HREL.out _ O7.out
          case measure => have := HZL.out; simp [intOf]; omega
    · have e1 : ((at_ : Int)).toNat = at_ := by omega
      have hn : at_ + (s.size - at_) ≤ s.size := by omega
      have hpc := pwrite_piece s at_ (s.size - at_) hn
      rw [show at_ + (s.size - at_) = s.size by omega] at hpc
      rw [List.take_of_length_le (show (bnat s).length ≤ s.size by rw [bnat_len]; exact Nat.le_refl _)] at hpc
      change _ = prd s at hpc
      have hsz := write_size Sc0 ((bnat s).take at_)
      have hlen : ((bnat s).take at_).length = at_ := by rw [List.length_take, bnat_len]; omega
      have z0 : Sc0.size = 0 := rfl
      rw [hlen, z0] at hsz
      have hex : (s.extract at_ s.size).size = s.size - at_ := by simp
      have HW := Lib.hid (own_write HE2.out O4.out (s.extract at_ s.size) (write_good Sc0 _ Sc0_good) (by omega) (by rw [hex]; omega))
      rw [hpc] at HW
      have hg2 := prd_good s
      have hpz : (prd s).bad ≠ 0 → pclose (prd s) = (prd s).bad := fun h => if_neg h
      have hokc := pclose_ok (prd s) hg2.1
      generalize prd s = st at *
      have HST := Lib.hid (fun wx (h : Own w2 a w2.heap.size st wx) => own_len h)
      have HCL := Lib.hid (fun wx (h : Own w2 a w2.heap.size st wx) => own_close HE2.out h hg2)
      have HDE := Lib.hid (fun wx (h : Own w2 a w2.heap.size st wx) => own_depth h)
      have HSM := Lib.hid (fun wx (h : Own w2 a w2.heap.size st wx) (v : Value) lu (hu : ErrAt wx a lu v (pclose st) st.size) => same_any a wx (HE2.out.below h.bel) v verr lu w1.heap.size (pclose st) st.size hokc hu (HV.out.below h.bel))
      have HPZ := Lib.hid hpz
      clear hpc hsz hlen z0 hex hg2 hpz hokc
      have hend : ¬ i < zs.length ∨ (i < zs.length ∧ ¬ at_ < s.size) := by omega
      clear hgo
      rcases hend with h1 | ⟨h1, h2⟩
      all_goals
        go_wp2_with fail
        refine HW.out.mono ?_
        rintro e w4 ⟨v, rfl, hv, ho⟩
        have O5 := Lib.hid ho
        have HVV := Lib.hid hv
        clear hv ho
        by_cases hb0 : st.bad = 0
        · have hv := HVV.out
          rw [hb0] at hv
          obtain rfl := err_nil hv
          clear hv hb0
          go_wp2_with fail
          refine (HCL.out w4 O5.out).mono ?_
          rintro e w5 ⟨v5, rfl, hv5, ho5, -⟩
          have O6 := Lib.hid ho5
          have HS6 := Lib.hid (HSM.out w5 ho5 v5 _ hv5)
          clear ho5 hv5
          go_wp2_with fail
          refine HS6.out.mono ?_
          rintro e w6 ⟨rfl, hb6⟩
          have O7 := Lib.hid (O6.out.below hb6)
          clear hb6
          go_wp2_with fail
          refine (HCL.out w6 O7.out).mono ?_
          rintro e w7 ⟨v7, rfl, hv7, ho7, -⟩
          have O8 := Lib.hid ho7
          have HS8 := Lib.hid (HSM.out w7 ho7 v7 _ hv7)
          clear ho7 hv7
          go_wp2_with fail
          refine HS8.out.mono ?_
          rintro e w8 ⟨rfl, hb8⟩
          have O9 := Lib.hid (O8.out.below hb8)
          clear hb8
          go_wp2_with fail
          refine (HST.out w8 O9.out).mono ?_
          rintro e w9 ⟨rfl, rfl⟩
          go_wp2_with fail
          refine (HDE.out w8 O9.out).mono ?_
          rintro e w9 ⟨rfl, rfl⟩
          go_wp2_with fail
          go_ret
          exact ⟨rfl, HB2.out.trans (O9.out.bel.mono HB2.out.size)⟩
        · have hvv := HVV.out
          obtain ⟨gf, -, rfl, -⟩ := err_some hb0 hvv
          rw [← HPZ.out hb0] at hvv
          have HS5 := Lib.hid (HSM.out w4 O5.out _ _ hvv)
          clear hvv hb0 HVV
          go_wp2_with fail
          refine HS5.out.mono ?_
          rintro e w6 ⟨rfl, hb6⟩
          have O7 := Lib.hid (O5.out.below hb6)
          clear hb6
          go_wp2_with fail
          refine (HCL.out w6 O7.out).mono ?_
          rintro e w7 ⟨v7, rfl, hv7, ho7, -⟩
          have O8 := Lib.hid ho7
          have HS8 := Lib.hid (HSM.out w7 ho7 v7 _ hv7)
          clear ho7 hv7
          go_wp2_with fail
          refine HS8.out.mono ?_
          rintro e w8 ⟨rfl, hb8⟩
          have O9 := Lib.hid (O8.out.below hb8)
          clear hb8
          go_wp2_with fail
          refine (HST.out w8 O9.out).mono ?_
          rintro e w9 ⟨rfl, rfl⟩
          go_wp2_with fail
          refine (HDE.out w8 O9.out).mono ?_
          rintro e w9 ⟨rfl, rfl⟩
          go_wp2_with fail
          go_ret
          exact ⟨rfl, HB2.out.trans (O9.out.bel.mono HB2.out.size)⟩
end Go.Proofs.YtjfeebbhkolmoaaDoor
