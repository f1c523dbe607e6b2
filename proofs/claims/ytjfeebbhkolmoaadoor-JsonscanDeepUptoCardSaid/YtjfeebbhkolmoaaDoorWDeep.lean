/- The walk of cruciblelaw16.JsonscanDeep. -/
import Derived.Test.YtjfeebbhkolmoaaDoorJsE
import Derived.Test.YtjfeebbhkolmoaaDoorOpenB2
namespace Go.Proofs.YtjfeebbhkolmoaaDoor
open Go.RowKit
set_option linter.unusedVariables false

theorem Rd.bool {w : World} {A : Option Addr} {ks : List Bool} (h : Rd w A (bvals ks)) {i : Nat} (hi : i < ks.length) : ∃ b off, A = some ⟨b, off, none⟩ ∧ w.cell? ⟨b, off + i, none⟩ = some (.bool ks[i]) := h.at_ (bvals_get ks i hi)
theorem take_snoc_b (ks : List Bool) (k : Nat) (h : k < ks.length) : ks.take (k + 1) = ks.take k ++ [ks[k]] := by rw [List.take_succ_eq_append_getElem h]
def DRel (ks : List Bool) (N : Nat) (v5 v6 v7 v8 : Value) : Prop :=
  ∃ k : Nat, k ≤ N ∧ v5 = .string (oB (ks.take k)) ∧ v6 = .string (sB (ks.take k)) ∧ v7 = .int .i64 (if k ≤ 128 then 0 else ((oB (ks.take 128)).size : Int)) ∧ v8 = .int .i64 k
theorem drel_step (ks : List Bool) (N k : Nat) (hN : N ≤ ks.length) (hk : k < N) (X Y : ByteArray) (L : Int) (hX : X = oB (ks.take k) ++ oP (ks[k]'(by omega))) (hY : Y = sP (ks[k]'(by omega)) ++ sB (ks.take k)) (hL : L = if k + 1 ≤ 128 then 0 else ((oB (ks.take 128)).size : Int)) :
    DRel ks N (.string X) (.string Y) (.int .i64 L) (.int .i64 ((k : Int) + 1)) := by
  refine ⟨k + 1, hk, ?_, ?_, by rw [hL], by go_num⟩
  · rw [take_snoc_b ks k (by omega), oB_snoc, hX]
  · rw [take_snoc_b ks k (by omega), sB_snoc, hY]

set_option maxRecDepth 100000 in
set_option maxHeartbeats 3000000 in
theorem wdeep (A : Option Addr) (cp : Nat) (ks : List Bool) (value : Bool) (a : Nat → Addr) (w : World) (hr : Rd w A (bvals ks)) (hl : ks.length ≤ 1048576) (he : Errs w a) :
    Calls Tryd.prog 8 #[.slice A ks.length cp, .bool value] w fun e w' => e = .returned (.bool true) ∧ Below w.heap.size w w' := by
  have HE := Lib.hid he
  have HR := Lib.hid hr
  have HL := Lib.hid (lives_any a w he)
  clear he hr
  obtain ⟨N, hN⟩ : ∃ N, N = min ks.length 200 := ⟨_, rfl⟩
  have hN1 : N ≤ ks.length := by omega
  have hN2 : N ≤ 200 := by omega
  have hN3 : N = ks.length ∨ N = 200 := by omega
  have HN := Lib.hid hN
  clear hN
  go_enter Tryd.func8, Tryd.ntmps8
  go_wp2_with fail
  refine HL.out.mono ?_
  rintro e w1 ⟨rfl, hb1⟩
  have HB1 := Lib.hid hb1
  have HR1 := Lib.hid (HR.out.below hb1)
  clear hb1
  go_wp2_with fail
  go_loop [5, 6, 7, 8] (fun v5 v6 v7 v8 => DRel ks N v5 v6 v7 v8) (fun _ _ _ v8 => N - (intOf v8).toNat)
  case atStart => exact ⟨0, Nat.zero_le _, rfl, rfl, rfl, rfl⟩
  case round =>
    obtain ⟨k, hk, rfl, rfl, rfl, rfl⟩ := hrel
    have so := oB_size (ks.take k)
    have ss := sB_size (ks.take k)
    have st : (ks.take k).length ≤ 200 := by rw [List.length_take]; omega
    by_cases hlt : k < N
    · obtain ⟨b, off, rfl, hc⟩ := HR1.out.bool (show k < ks.length by omega)
      have hlt1 : k < ks.length := by omega
      have hlt2 : k < 200 := by omega
      have HST := Lib.hid (fun X Y L => drel_step ks N k hN1 hlt X Y L)
      by_cases h128 : k = 128
      · subst h128
        have so2 : (oB (ks.take 128)).size ≤ 1000 := by omega
        have ss2 : (sB (ks.take 128)).size ≤ 1000 := by omega
        have HN4 := Lib.hid hlt
        rw [if_pos (by omega)]
        cases hkb : ks[128]
        all_goals
          rw [hkb] at hc HST
          generalize oB (ks.take 128) = X at *
          generalize sB (ks.take 128) = Y at *
          clear so ss st hkb hlt
          go_wp2_with fail
          go_round
          case rel => exact HST.out _ _ _ rfl rfl rfl
          case measure => have := HN4.out; simp [intOf]; omega
      · have so2 : (oB (ks.take k)).size ≤ 1000 := by omega
        have ss2 : (sB (ks.take k)).size ≤ 1000 := by omega
        have q : ((k : Int) == 128) = false := by rw [beq_eq_false_iff_ne]; omega
        have HN4 := Lib.hid hlt
        have hlim : (if k ≤ 128 then (0 : Int) else ((oB (ks.take 128)).size : Int)) = if k + 1 ≤ 128 then 0 else ((oB (ks.take 128)).size : Int) := by
          by_cases h : k + 1 ≤ 128
          · rw [if_pos h, if_pos (by omega)]
          · rw [if_neg h, if_neg (by omega)]
        have HLIM := Lib.hid hlim
        generalize (if k ≤ 128 then (0 : Int) else ((oB (ks.take 128)).size : Int)) = lim at *
        cases hkb : ks[k]
        all_goals
          rw [hkb] at hc HST
          generalize oB (ks.take k) = X at *
          generalize sB (ks.take k) = Y at *
          clear so ss st hkb hlt h128 hlim
          go_wp2_with fail
          go_round
          case rel => exact HST.out _ _ _ rfl rfl HLIM.out
          case measure => have := HN4.out; simp [intOf]; omega
    · obtain rfl : k = N := by omega
      have hover := fun (h : 128 < (ks.take k).length) (y : List Nat) => deep_over (ks.take k) h y
      have hfull := fun (h : (ks.take k).length ≤ 128) => deep_full (ks.take k) h value
      have hat := fun (h : (ks.take k).length ≤ 128) => open_all (ks.take k) h
      have hKl : (ks.take k).length = k := by rw [List.length_take]; omega
      have hK128 : 128 < k → (ks.take k).take 128 = ks.take 128 := fun h => by rw [List.take_take, Nat.min_eq_left (by omega)]
      have hlast : 0 < k → (ks.take k).getLast? = ks[k - 1]? := fun h => by
        rw [List.getLast?_eq_getElem?, hKl, List.getElem?_take, if_pos (by omega)]
      have hnil : ks.take k = [] ↔ k = 0 := by
        constructor
        · intro h; rw [h] at hKl; simpa using hKl.symm
        · rintro rfl; rfl
      rw [hKl] at so ss hover hfull hat
      have so2 : (oB (ks.take k)).size ≤ 1000 := by omega
      have ss2 : (sB (ks.take k)).size ≤ 1000 := by omega
      have HW : Hid (wB value (ks.take k) = if value = true ∨ k = 0 ∨ ks[k - 1]? = some false then ⟨#[48]⟩ else ⟨#[]⟩) := Lib.hid (by
        unfold wB
        by_cases h : value = true ∨ ks.take k = [] ∨ (ks.take k).getLast? = some false
        · rw [if_pos h, if_pos]
          rcases h with h | h | h
          · exact .inl h
          · exact .inr (.inl (hnil.1 h))
          · by_cases h0 : 0 < k
            · rw [hlast h0] at h; exact .inr (.inr h)
            · exact .inr (.inl (by omega))
        · rw [if_neg h, if_neg]
          rintro (h1 | h1 | h1)
          · exact h (.inl h1)
          · exact h (.inr (.inl (hnil.2 h1)))
          · by_cases h0 : 0 < k
            · exact h (.inr (.inr (by rw [hlast h0, h1])))
            · exact h (.inr (.inl (hnil.2 (by omega)))))
      have HSS := Lib.hid ss
      clear ss
      have HOV := Lib.hid hover
      have HFU := Lib.hid hfull
      have HAT := Lib.hid hat
      have HKL := Lib.hid hKl
      have HK128 := Lib.hid hK128
      clear hover hfull hat hKl hK128 hlast hnil so st hlt hk
      have hcase : ∃ W0 : ByteArray, wB value (ks.take k) = W0 ∧ ((W0 = ⟨#[48]⟩ ∧ value = true) ∨ (W0 = ⟨#[48]⟩ ∧ value = false ∧ ks.length = 0) ∨ (W0 = ⟨#[48]⟩ ∧ value = false ∧ 0 < k ∧ ks[k - 1]? = some false) ∨ (W0 = ⟨#[]⟩ ∧ value = false ∧ 0 < k ∧ ks[k - 1]? = some true)) := by
        refine ⟨_, rfl, ?_⟩
        rw [HW.out]
        cases hv : value
        · by_cases h0 : k = 0
          · right; left
            exact ⟨if_pos (.inr (.inl h0)), rfl, by omega⟩
          · have hlt2 : k - 1 < ks.length := by omega
            have he : ks[k - 1]? = some ks[k - 1] := List.getElem?_eq_getElem hlt2
            cases hb : ks[k - 1]
            · right; right; left
              rw [hb] at he
              exact ⟨if_pos (.inr (.inr he)), rfl, by omega, he⟩
            · right; right; right
              rw [hb] at he
              refine ⟨if_neg ?_, rfl, by omega, he⟩
              rintro (h1 | h1 | h1)
              · cases h1
              · exact h0 h1
              · rw [he] at h1; cases h1
        · left; exact ⟨if_pos (.inl rfl), rfl⟩
      obtain ⟨W0, hW0, hcs⟩ := hcase
      have HW0 := Lib.hid hW0
      clear hW0 HW
      have hlen0 : 0 ≤ (ks.length : Int) := by omega
      have kI : ((k : Int) < (ks.length : Int) ∧ k = 200) ∨ (k = ks.length ∧ ks.length ≤ 200) := by omega
      have HLM : Hid (128 < k → (if k ≤ 128 then (0 : Int) else ((oB (ks.take 128)).size : Int)) = ((oB (ks.take 128)).size : Int)) := Lib.hid (fun h => if_neg (by omega))
      have HST : Hid (∀ T' : ByteArray, T' = oB (ks.take k) ++ W0 ++ sB (ks.take k) → (128 < k → pclose (prd T') = 5 ∧ (prd T').size = (if k ≤ 128 then (0 : Int) else ((oB (ks.take 128)).size : Int)) ∧ (prd T').open_.length = 128) ∧
          (k ≤ 128 → pclose (prd T') = 0 ∧ (prd T').size = ((oB (ks.take k)).size : Int) + (W0.size : Int) + ((sB (ks.take k)).size : Int) ∧ (prd T').open_.length = 0)) := Lib.hid (by
        rintro T' rfl
        refine ⟨fun h => ?_, fun h => ?_⟩
        · have h2 := HOV.out h (bnat W0 ++ bnat (sB (ks.take k)))
          have e : prd (oB (ks.take k) ++ W0 ++ sB (ks.take k)) = pwrite Sc0 (bnat (oB (ks.take k)) ++ (bnat W0 ++ bnat (sB (ks.take k)))) := by
            unfold prd; rw [bnat_app, bnat_app, List.append_assoc]
          rw [e]
          refine ⟨h2.1, ?_, h2.2.2⟩
          rw [h2.2.1, HK128.out h, HLM.out h]
        · have h2 := HFU.out h
          rw [HW0.out] at h2
          exact ⟨h2.1, h2.2.1, by show (pwrite Sc0 _).open_.length = 0; rw [h2.2.2]; rfl⟩)
      clear HOV HFU HLM
      generalize (if k ≤ 128 then (0 : Int) else ((oB (ks.take 128)).size : Int)) = lim at *
      generalize oB (ks.take k) = X at *
      generalize sB (ks.take k) = Y at *
      rcases hcs with ⟨rfl, rfl⟩ | ⟨rfl, rfl, h0⟩ | ⟨rfl, rfl, h0, hb⟩ | ⟨rfl, rfl, h0, hb⟩
      · rcases kI with ⟨h1, hk200⟩ | ⟨hkk, h1⟩
        · have h2 : ¬ (k : Int) < 200 := by omega
          have HK := Lib.hid hk200
          clear hk200
          go_wp2_with fail
          refine (read_any w1 _ a (HE.out.below HB1.out) (by have hone : (⟨#[48]⟩ : ByteArray).size = 1 := rfl; have hnul : (⟨#[]⟩ : ByteArray).size = 0 := rfl; simp; omega)).mono ?_
          rintro e w2 ⟨verr, rfl, hverr, hb2⟩
          have HT := Lib.hid (HST.out _ rfl)
          generalize prd _ = st at *
          have HV := Lib.hid hverr
          have HB2 : Hid (Below w.heap.size w w2) := Lib.hid (HB1.out.trans (hb2.mono HB1.out.size))
          clear hverr hb2 HST
          have HE2 := Lib.hid (HE.out.below HB2.out)
          by_cases hov : 128 < k
          · obtain ⟨t1, t2, t3⟩ := HT.out.1 hov
            have hv := HV.out
            rw [t1, t2] at hv
            obtain ⟨gf, -, rfl, hff⟩ := err_some (by decide) hv
            have I1 := Lib.hid (isAt_5 gf lim a w2 HE2.out hff lim)
            rw [show (lim == lim) = true by simp] at I1
            have hk128 : 128 < (ks.length : Int) := by first | (have := HK.out; omega) | (have := H0.out; omega)
            clear hv hff t1 HT HV hov
            go_wp2_with fail
            refine I1.out.mono ?_
            rintro e w3 ⟨rfl, hb3⟩
            have HB3 := Lib.hid hb3
            clear hb3
            go_wp2_with fail
            go_ret
            exact ⟨rfl, HB2.out.trans (HB3.out.mono HB2.out.size)⟩
          · first
            | (exfalso; have := HK.out; omega)
            | (
              obtain ⟨t1, t2, t3⟩ := HT.out.2 (by omega)
              have hv := HV.out
              rw [t1] at hv
              obtain rfl := err_nil hv
              have hkl : k = ks.length := by first | (have := HK.out; omega) | (have := H0.out; omega)
              have hk128 : ¬ 128 < (ks.length : Int) := by omega
              have HXW := Lib.hid (fun wx (h : Own w2 a w2.heap.size Sc0 wx) => own_write HE2.out h X Sc0_good (by decide) (by show (0 : Int) + _ ≤ _; omega))
              have HAV := HAT.out (by omega)
              have hbx : (pwrite Sc0 (bnat X)).bad = 0 := HAV.1
              have hox : (pwrite Sc0 (bnat X)).open_.length = ks.length := by rw [HAV.2.1, List.length_map, HKL.out]; exact hkl
              unfold OWPost at HXW
              rw [hbx] at HXW
              have HDX := Lib.hid (fun wx (h : Own w2 a w2.heap.size (pwrite Sc0 (bnat X)) wx) => own_depth h)
              rw [hox] at HDX
              have HKL2 := Lib.hid hkl
              clear hv t1 HT HV hov HAV hbx hox HAT hkl
              go_wp2_with fail
              refine (new_any w2).mono ?_
              rintro e w3 ⟨rfl, hs3, hb3⟩
              have O3 := Lib.hid (Own.new HE2.out (Below.refl _ _) hs3 hb3)
              clear hs3 hb3
              go_wp2_with fail
              refine (HXW.out w3 O3.out).mono ?_
              rintro e w4 ⟨v, rfl, hv, ho⟩
              obtain rfl := err_nil hv
              have O4 := Lib.hid ho
              clear hv ho
              go_wp2_with fail
              refine (HDX.out w4 O4.out).mono ?_
              rintro e w5 ⟨rfl, rfl⟩
              go_wp2_with fail
              go_ret
              exact ⟨rfl, HB2.out.trans (O4.out.bel.mono HB2.out.size)⟩)
        · have h2 : ¬ (k : Int) < (ks.length : Int) := by omega
          have HK := Lib.hid hkk
          clear hkk
          go_wp2_with fail
          refine (read_any w1 _ a (HE.out.below HB1.out) (by have hone : (⟨#[48]⟩ : ByteArray).size = 1 := rfl; have hnul : (⟨#[]⟩ : ByteArray).size = 0 := rfl; simp; omega)).mono ?_
          rintro e w2 ⟨verr, rfl, hverr, hb2⟩
          have HT := Lib.hid (HST.out _ rfl)
          generalize prd _ = st at *
          have HV := Lib.hid hverr
          have HB2 : Hid (Below w.heap.size w w2) := Lib.hid (HB1.out.trans (hb2.mono HB1.out.size))
          clear hverr hb2 HST
          have HE2 := Lib.hid (HE.out.below HB2.out)
          by_cases hov : 128 < k
          · obtain ⟨t1, t2, t3⟩ := HT.out.1 hov
            have hv := HV.out
            rw [t1, t2] at hv
            obtain ⟨gf, -, rfl, hff⟩ := err_some (by decide) hv
            have I1 := Lib.hid (isAt_5 gf lim a w2 HE2.out hff lim)
            rw [show (lim == lim) = true by simp] at I1
            have hk128 : 128 < (ks.length : Int) := by first | (have := HK.out; omega) | (have := H0.out; omega)
            clear hv hff t1 HT HV hov
            go_wp2_with fail
            refine I1.out.mono ?_
            rintro e w3 ⟨rfl, hb3⟩
            have HB3 := Lib.hid hb3
            clear hb3
            go_wp2_with fail
            go_ret
            exact ⟨rfl, HB2.out.trans (HB3.out.mono HB2.out.size)⟩
          · first
            | (exfalso; have := HK.out; omega)
            | (
              obtain ⟨t1, t2, t3⟩ := HT.out.2 (by omega)
              have hv := HV.out
              rw [t1] at hv
              obtain rfl := err_nil hv
              have hkl : k = ks.length := by first | (have := HK.out; omega) | (have := H0.out; omega)
              have hk128 : ¬ 128 < (ks.length : Int) := by omega
              have HXW := Lib.hid (fun wx (h : Own w2 a w2.heap.size Sc0 wx) => own_write HE2.out h X Sc0_good (by decide) (by show (0 : Int) + _ ≤ _; omega))
              have HAV := HAT.out (by omega)
              have hbx : (pwrite Sc0 (bnat X)).bad = 0 := HAV.1
              have hox : (pwrite Sc0 (bnat X)).open_.length = ks.length := by rw [HAV.2.1, List.length_map, HKL.out]; exact hkl
              unfold OWPost at HXW
              rw [hbx] at HXW
              have HDX := Lib.hid (fun wx (h : Own w2 a w2.heap.size (pwrite Sc0 (bnat X)) wx) => own_depth h)
              rw [hox] at HDX
              have HKL2 := Lib.hid hkl
              clear hv t1 HT HV hov HAV hbx hox HAT hkl
              go_wp2_with fail
              refine (new_any w2).mono ?_
              rintro e w3 ⟨rfl, hs3, hb3⟩
              have O3 := Lib.hid (Own.new HE2.out (Below.refl _ _) hs3 hb3)
              clear hs3 hb3
              go_wp2_with fail
              refine (HXW.out w3 O3.out).mono ?_
              rintro e w4 ⟨v, rfl, hv, ho⟩
              obtain rfl := err_nil hv
              have O4 := Lib.hid ho
              clear hv ho
              go_wp2_with fail
              refine (HDX.out w4 O4.out).mono ?_
              rintro e w5 ⟨rfl, rfl⟩
              go_wp2_with fail
              go_ret
              exact ⟨rfl, HB2.out.trans (O4.out.bel.mono HB2.out.size)⟩)
      · have h2 : ¬ (k : Int) < (ks.length : Int) := by omega
        have q0 : ((ks.length : Int) == 0) = true := by rw [h0]; rfl
        have H0 := Lib.hid h0
        clear kI h0
        go_wp2_with fail
        refine (read_any w1 _ a (HE.out.below HB1.out) (by have hone : (⟨#[48]⟩ : ByteArray).size = 1 := rfl; have hnul : (⟨#[]⟩ : ByteArray).size = 0 := rfl; simp; omega)).mono ?_
        rintro e w2 ⟨verr, rfl, hverr, hb2⟩
        have HT := Lib.hid (HST.out _ rfl)
        generalize prd _ = st at *
        have HV := Lib.hid hverr
        have HB2 : Hid (Below w.heap.size w w2) := Lib.hid (HB1.out.trans (hb2.mono HB1.out.size))
        clear hverr hb2 HST
        have HE2 := Lib.hid (HE.out.below HB2.out)
        by_cases hov : 128 < k
        · obtain ⟨t1, t2, t3⟩ := HT.out.1 hov
          have hv := HV.out
          rw [t1, t2] at hv
          obtain ⟨gf, -, rfl, hff⟩ := err_some (by decide) hv
          have I1 := Lib.hid (isAt_5 gf lim a w2 HE2.out hff lim)
          rw [show (lim == lim) = true by simp] at I1
          have hk128 : 128 < (ks.length : Int) := by first | (have := HK.out; omega) | (have := H0.out; omega)
          clear hv hff t1 HT HV hov
          go_wp2_with fail
          refine I1.out.mono ?_
          rintro e w3 ⟨rfl, hb3⟩
          have HB3 := Lib.hid hb3
          clear hb3
          go_wp2_with fail
          go_ret
          exact ⟨rfl, HB2.out.trans (HB3.out.mono HB2.out.size)⟩
        · first
          | (exfalso; have := HK.out; omega)
          | (
            obtain ⟨t1, t2, t3⟩ := HT.out.2 (by omega)
            have hv := HV.out
            rw [t1] at hv
            obtain rfl := err_nil hv
            have hkl : k = ks.length := by first | (have := HK.out; omega) | (have := H0.out; omega)
            have hk128 : ¬ 128 < (ks.length : Int) := by omega
            have HXW := Lib.hid (fun wx (h : Own w2 a w2.heap.size Sc0 wx) => own_write HE2.out h X Sc0_good (by decide) (by show (0 : Int) + _ ≤ _; omega))
            have HAV := HAT.out (by omega)
            have hbx : (pwrite Sc0 (bnat X)).bad = 0 := HAV.1
            have hox : (pwrite Sc0 (bnat X)).open_.length = ks.length := by rw [HAV.2.1, List.length_map, HKL.out]; exact hkl
            unfold OWPost at HXW
            rw [hbx] at HXW
            have HDX := Lib.hid (fun wx (h : Own w2 a w2.heap.size (pwrite Sc0 (bnat X)) wx) => own_depth h)
            rw [hox] at HDX
            have HKL2 := Lib.hid hkl
            clear hv t1 HT HV hov HAV hbx hox HAT hkl
            go_wp2_with fail
            refine (new_any w2).mono ?_
            rintro e w3 ⟨rfl, hs3, hb3⟩
            have O3 := Lib.hid (Own.new HE2.out (Below.refl _ _) hs3 hb3)
            clear hs3 hb3
            go_wp2_with fail
            refine (HXW.out w3 O3.out).mono ?_
            rintro e w4 ⟨v, rfl, hv, ho⟩
            obtain rfl := err_nil hv
            have O4 := Lib.hid ho
            clear hv ho
            go_wp2_with fail
            refine (HDX.out w4 O4.out).mono ?_
            rintro e w5 ⟨rfl, rfl⟩
            go_wp2_with fail
            go_ret
            exact ⟨rfl, HB2.out.trans (O4.out.bel.mono HB2.out.size)⟩)
      · obtain ⟨b, off, rfl, hc⟩ := HR1.out.bool (show k - 1 < ks.length by omega)
        have he : ks[k - 1]'(by omega) = false := by
          rw [List.getElem?_eq_getElem (by omega)] at hb
          simpa using hb
        rw [he] at hc
        have q0 : ((ks.length : Int) == 0) = false := by rw [beq_eq_false_iff_ne]; omega
        have q1 : 1 ≤ (ks.length : Int) := by omega
        clear hb he
        rcases kI with ⟨h1, hk200⟩ | ⟨hkk, h1⟩
        · have h2 : ¬ (ks.length : Int) ≤ 200 := by omega
          have h3 : ¬ (k : Int) < 200 := by omega
          rw [hk200] at hc
          simp only [Nat.reduceSub] at hc
          have HK := Lib.hid hk200
          clear hk200
          go_wp2_with fail
          refine (read_any w1 _ a (HE.out.below HB1.out) (by have hone : (⟨#[48]⟩ : ByteArray).size = 1 := rfl; have hnul : (⟨#[]⟩ : ByteArray).size = 0 := rfl; simp; omega)).mono ?_
          rintro e w2 ⟨verr, rfl, hverr, hb2⟩
          have HT := Lib.hid (HST.out _ rfl)
          generalize prd _ = st at *
          have HV := Lib.hid hverr
          have HB2 : Hid (Below w.heap.size w w2) := Lib.hid (HB1.out.trans (hb2.mono HB1.out.size))
          clear hverr hb2 HST
          have HE2 := Lib.hid (HE.out.below HB2.out)
          by_cases hov : 128 < k
          · obtain ⟨t1, t2, t3⟩ := HT.out.1 hov
            have hv := HV.out
            rw [t1, t2] at hv
            obtain ⟨gf, -, rfl, hff⟩ := err_some (by decide) hv
            have I1 := Lib.hid (isAt_5 gf lim a w2 HE2.out hff lim)
            rw [show (lim == lim) = true by simp] at I1
            have hk128 : 128 < (ks.length : Int) := by first | (have := HK.out; omega) | (have := H0.out; omega)
            clear hv hff t1 HT HV hov
            go_wp2_with fail
            refine I1.out.mono ?_
            rintro e w3 ⟨rfl, hb3⟩
            have HB3 := Lib.hid hb3
            clear hb3
            go_wp2_with fail
            go_ret
            exact ⟨rfl, HB2.out.trans (HB3.out.mono HB2.out.size)⟩
          · first
            | (exfalso; have := HK.out; omega)
            | (
              obtain ⟨t1, t2, t3⟩ := HT.out.2 (by omega)
              have hv := HV.out
              rw [t1] at hv
              obtain rfl := err_nil hv
              have hkl : k = ks.length := by first | (have := HK.out; omega) | (have := H0.out; omega)
              have hk128 : ¬ 128 < (ks.length : Int) := by omega
              have HXW := Lib.hid (fun wx (h : Own w2 a w2.heap.size Sc0 wx) => own_write HE2.out h X Sc0_good (by decide) (by show (0 : Int) + _ ≤ _; omega))
              have HAV := HAT.out (by omega)
              have hbx : (pwrite Sc0 (bnat X)).bad = 0 := HAV.1
              have hox : (pwrite Sc0 (bnat X)).open_.length = ks.length := by rw [HAV.2.1, List.length_map, HKL.out]; exact hkl
              unfold OWPost at HXW
              rw [hbx] at HXW
              have HDX := Lib.hid (fun wx (h : Own w2 a w2.heap.size (pwrite Sc0 (bnat X)) wx) => own_depth h)
              rw [hox] at HDX
              have HKL2 := Lib.hid hkl
              clear hv t1 HT HV hov HAV hbx hox HAT hkl
              go_wp2_with fail
              refine (new_any w2).mono ?_
              rintro e w3 ⟨rfl, hs3, hb3⟩
              have O3 := Lib.hid (Own.new HE2.out (Below.refl _ _) hs3 hb3)
              clear hs3 hb3
              go_wp2_with fail
              refine (HXW.out w3 O3.out).mono ?_
              rintro e w4 ⟨v, rfl, hv, ho⟩
              obtain rfl := err_nil hv
              have O4 := Lib.hid ho
              clear hv ho
              go_wp2_with fail
              refine (HDX.out w4 O4.out).mono ?_
              rintro e w5 ⟨rfl, rfl⟩
              go_wp2_with fail
              go_ret
              exact ⟨rfl, HB2.out.trans (O4.out.bel.mono HB2.out.size)⟩)
        · have h2 : (ks.length : Int) ≤ 200 := by omega
          have h3 : ¬ (k : Int) < (ks.length : Int) := by omega
          have e1 : ((ks.length : Int) - 1).toNat = k - 1 := by omega
          have HK := Lib.hid hkk
          clear hkk
          go_wp2_with fail
          refine (read_any w1 _ a (HE.out.below HB1.out) (by have hone : (⟨#[48]⟩ : ByteArray).size = 1 := rfl; have hnul : (⟨#[]⟩ : ByteArray).size = 0 := rfl; simp; omega)).mono ?_
          rintro e w2 ⟨verr, rfl, hverr, hb2⟩
          have HT := Lib.hid (HST.out _ rfl)
          generalize prd _ = st at *
          have HV := Lib.hid hverr
          have HB2 : Hid (Below w.heap.size w w2) := Lib.hid (HB1.out.trans (hb2.mono HB1.out.size))
          clear hverr hb2 HST
          have HE2 := Lib.hid (HE.out.below HB2.out)
          by_cases hov : 128 < k
          · obtain ⟨t1, t2, t3⟩ := HT.out.1 hov
            have hv := HV.out
            rw [t1, t2] at hv
            obtain ⟨gf, -, rfl, hff⟩ := err_some (by decide) hv
            have I1 := Lib.hid (isAt_5 gf lim a w2 HE2.out hff lim)
            rw [show (lim == lim) = true by simp] at I1
            have hk128 : 128 < (ks.length : Int) := by first | (have := HK.out; omega) | (have := H0.out; omega)
            clear hv hff t1 HT HV hov
            go_wp2_with fail
            refine I1.out.mono ?_
            rintro e w3 ⟨rfl, hb3⟩
            have HB3 := Lib.hid hb3
            clear hb3
            go_wp2_with fail
            go_ret
            exact ⟨rfl, HB2.out.trans (HB3.out.mono HB2.out.size)⟩
          · first
            | (exfalso; have := HK.out; omega)
            | (
              obtain ⟨t1, t2, t3⟩ := HT.out.2 (by omega)
              have hv := HV.out
              rw [t1] at hv
              obtain rfl := err_nil hv
              have hkl : k = ks.length := by first | (have := HK.out; omega) | (have := H0.out; omega)
              have hk128 : ¬ 128 < (ks.length : Int) := by omega
              have HXW := Lib.hid (fun wx (h : Own w2 a w2.heap.size Sc0 wx) => own_write HE2.out h X Sc0_good (by decide) (by show (0 : Int) + _ ≤ _; omega))
              have HAV := HAT.out (by omega)
              have hbx : (pwrite Sc0 (bnat X)).bad = 0 := HAV.1
              have hox : (pwrite Sc0 (bnat X)).open_.length = ks.length := by rw [HAV.2.1, List.length_map, HKL.out]; exact hkl
              unfold OWPost at HXW
              rw [hbx] at HXW
              have HDX := Lib.hid (fun wx (h : Own w2 a w2.heap.size (pwrite Sc0 (bnat X)) wx) => own_depth h)
              rw [hox] at HDX
              have HKL2 := Lib.hid hkl
              clear hv t1 HT HV hov HAV hbx hox HAT hkl
              go_wp2_with fail
              refine (new_any w2).mono ?_
              rintro e w3 ⟨rfl, hs3, hb3⟩
              have O3 := Lib.hid (Own.new HE2.out (Below.refl _ _) hs3 hb3)
              clear hs3 hb3
              go_wp2_with fail
              refine (HXW.out w3 O3.out).mono ?_
              rintro e w4 ⟨v, rfl, hv, ho⟩
              obtain rfl := err_nil hv
              have O4 := Lib.hid ho
              clear hv ho
              go_wp2_with fail
              refine (HDX.out w4 O4.out).mono ?_
              rintro e w5 ⟨rfl, rfl⟩
              go_wp2_with fail
              go_ret
              exact ⟨rfl, HB2.out.trans (O4.out.bel.mono HB2.out.size)⟩)
      · obtain ⟨b, off, rfl, hc⟩ := HR1.out.bool (show k - 1 < ks.length by omega)
        have he : ks[k - 1]'(by omega) = true := by
          rw [List.getElem?_eq_getElem (by omega)] at hb
          simpa using hb
        rw [he] at hc
        have q0 : ((ks.length : Int) == 0) = false := by rw [beq_eq_false_iff_ne]; omega
        have q1 : 1 ≤ (ks.length : Int) := by omega
        clear hb he
        rcases kI with ⟨h1, hk200⟩ | ⟨hkk, h1⟩
        · have h2 : ¬ (ks.length : Int) ≤ 200 := by omega
          have h3 : ¬ (k : Int) < 200 := by omega
          rw [hk200] at hc
          simp only [Nat.reduceSub] at hc
          have HK := Lib.hid hk200
          clear hk200
          go_wp2_with fail
          refine (read_any w1 _ a (HE.out.below HB1.out) (by have hone : (⟨#[48]⟩ : ByteArray).size = 1 := rfl; have hnul : (⟨#[]⟩ : ByteArray).size = 0 := rfl; simp; omega)).mono ?_
          rintro e w2 ⟨verr, rfl, hverr, hb2⟩
          have HT := Lib.hid (HST.out _ rfl)
          generalize prd _ = st at *
          have HV := Lib.hid hverr
          have HB2 : Hid (Below w.heap.size w w2) := Lib.hid (HB1.out.trans (hb2.mono HB1.out.size))
          clear hverr hb2 HST
          have HE2 := Lib.hid (HE.out.below HB2.out)
          by_cases hov : 128 < k
          · obtain ⟨t1, t2, t3⟩ := HT.out.1 hov
            have hv := HV.out
            rw [t1, t2] at hv
            obtain ⟨gf, -, rfl, hff⟩ := err_some (by decide) hv
            have I1 := Lib.hid (isAt_5 gf lim a w2 HE2.out hff lim)
            rw [show (lim == lim) = true by simp] at I1
            have hk128 : 128 < (ks.length : Int) := by first | (have := HK.out; omega) | (have := H0.out; omega)
            clear hv hff t1 HT HV hov
            go_wp2_with fail
            refine I1.out.mono ?_
            rintro e w3 ⟨rfl, hb3⟩
            have HB3 := Lib.hid hb3
            clear hb3
            go_wp2_with fail
            go_ret
            exact ⟨rfl, HB2.out.trans (HB3.out.mono HB2.out.size)⟩
          · first
            | (exfalso; have := HK.out; omega)
            | (
              obtain ⟨t1, t2, t3⟩ := HT.out.2 (by omega)
              have hv := HV.out
              rw [t1] at hv
              obtain rfl := err_nil hv
              have hkl : k = ks.length := by first | (have := HK.out; omega) | (have := H0.out; omega)
              have hk128 : ¬ 128 < (ks.length : Int) := by omega
              have HXW := Lib.hid (fun wx (h : Own w2 a w2.heap.size Sc0 wx) => own_write HE2.out h X Sc0_good (by decide) (by show (0 : Int) + _ ≤ _; omega))
              have HAV := HAT.out (by omega)
              have hbx : (pwrite Sc0 (bnat X)).bad = 0 := HAV.1
              have hox : (pwrite Sc0 (bnat X)).open_.length = ks.length := by rw [HAV.2.1, List.length_map, HKL.out]; exact hkl
              unfold OWPost at HXW
              rw [hbx] at HXW
              have HDX := Lib.hid (fun wx (h : Own w2 a w2.heap.size (pwrite Sc0 (bnat X)) wx) => own_depth h)
              rw [hox] at HDX
              have HKL2 := Lib.hid hkl
              clear hv t1 HT HV hov HAV hbx hox HAT hkl
              go_wp2_with fail
              refine (new_any w2).mono ?_
              rintro e w3 ⟨rfl, hs3, hb3⟩
              have O3 := Lib.hid (Own.new HE2.out (Below.refl _ _) hs3 hb3)
              clear hs3 hb3
              go_wp2_with fail
              refine (HXW.out w3 O3.out).mono ?_
              rintro e w4 ⟨v, rfl, hv, ho⟩
              obtain rfl := err_nil hv
              have O4 := Lib.hid ho
              clear hv ho
              go_wp2_with fail
              refine (HDX.out w4 O4.out).mono ?_
              rintro e w5 ⟨rfl, rfl⟩
              go_wp2_with fail
              go_ret
              exact ⟨rfl, HB2.out.trans (O4.out.bel.mono HB2.out.size)⟩)
        · have h2 : (ks.length : Int) ≤ 200 := by omega
          have h3 : ¬ (k : Int) < (ks.length : Int) := by omega
          have e1 : ((ks.length : Int) - 1).toNat = k - 1 := by omega
          have HK := Lib.hid hkk
          clear hkk
          go_wp2_with fail
          refine (read_any w1 _ a (HE.out.below HB1.out) (by have hone : (⟨#[48]⟩ : ByteArray).size = 1 := rfl; have hnul : (⟨#[]⟩ : ByteArray).size = 0 := rfl; simp; omega)).mono ?_
          rintro e w2 ⟨verr, rfl, hverr, hb2⟩
          have HT := Lib.hid (HST.out _ rfl)
          generalize prd _ = st at *
          have HV := Lib.hid hverr
          have HB2 : Hid (Below w.heap.size w w2) := Lib.hid (HB1.out.trans (hb2.mono HB1.out.size))
          clear hverr hb2 HST
          have HE2 := Lib.hid (HE.out.below HB2.out)
          by_cases hov : 128 < k
          · obtain ⟨t1, t2, t3⟩ := HT.out.1 hov
            have hv := HV.out
            rw [t1, t2] at hv
            obtain ⟨gf, -, rfl, hff⟩ := err_some (by decide) hv
            have I1 := Lib.hid (isAt_5 gf lim a w2 HE2.out hff lim)
            rw [show (lim == lim) = true by simp] at I1
            have hk128 : 128 < (ks.length : Int) := by first | (have := HK.out; omega) | (have := H0.out; omega)
            clear hv hff t1 HT HV hov
            go_wp2_with fail
            refine I1.out.mono ?_
            rintro e w3 ⟨rfl, hb3⟩
            have HB3 := Lib.hid hb3
            clear hb3
            go_wp2_with fail
            go_ret
            exact ⟨rfl, HB2.out.trans (HB3.out.mono HB2.out.size)⟩
          · first
            | (exfalso; have := HK.out; omega)
            | (
              obtain ⟨t1, t2, t3⟩ := HT.out.2 (by omega)
              have hv := HV.out
              rw [t1] at hv
              obtain rfl := err_nil hv
              have hkl : k = ks.length := by first | (have := HK.out; omega) | (have := H0.out; omega)
              have hk128 : ¬ 128 < (ks.length : Int) := by omega
              have HXW := Lib.hid (fun wx (h : Own w2 a w2.heap.size Sc0 wx) => own_write HE2.out h X Sc0_good (by decide) (by show (0 : Int) + _ ≤ _; omega))
              have HAV := HAT.out (by omega)
              have hbx : (pwrite Sc0 (bnat X)).bad = 0 := HAV.1
              have hox : (pwrite Sc0 (bnat X)).open_.length = ks.length := by rw [HAV.2.1, List.length_map, HKL.out]; exact hkl
              unfold OWPost at HXW
              rw [hbx] at HXW
              have HDX := Lib.hid (fun wx (h : Own w2 a w2.heap.size (pwrite Sc0 (bnat X)) wx) => own_depth h)
              rw [hox] at HDX
              have HKL2 := Lib.hid hkl
              clear hv t1 HT HV hov HAV hbx hox HAT hkl
              go_wp2_with fail
              refine (new_any w2).mono ?_
              rintro e w3 ⟨rfl, hs3, hb3⟩
              have O3 := Lib.hid (Own.new HE2.out (Below.refl _ _) hs3 hb3)
              clear hs3 hb3
              go_wp2_with fail
              refine (HXW.out w3 O3.out).mono ?_
              rintro e w4 ⟨v, rfl, hv, ho⟩
              obtain rfl := err_nil hv
              have O4 := Lib.hid ho
              clear hv ho
              go_wp2_with fail
              refine (HDX.out w4 O4.out).mono ?_
              rintro e w5 ⟨rfl, rfl⟩
              go_wp2_with fail
              go_ret
              exact ⟨rfl, HB2.out.trans (O4.out.bel.mono HB2.out.size)⟩)
end Go.Proofs.YtjfeebbhkolmoaaDoor
