/- cruciblelaw10.EscapePlaces: true. -/
import Derived.Test.YtiignmjglihbnaaDoorPlaces2
namespace Go.Proofs.YtiignmjglihbnaaDoor
open Go.RowKit
set_option linter.unusedVariables false

theorem endS_0 : endS 0 = ⟨#[34, 34]⟩ := by kernel_rfl
theorem endS_1 : endS 1 = ⟨#[34]⟩ := by kernel_rfl
theorem endS_2 : endS 2 = ⟨#[110, 34]⟩ := by kernel_rfl
theorem endS_3 : endS 3 = ⟨#[48, 48, 48, 48, 34]⟩ := by kernel_rfl
theorem endS_4 : endS 4 = ⟨#[48, 48, 48, 34]⟩ := by kernel_rfl
theorem endS_5 : endS 5 = ⟨#[48, 48, 34]⟩ := by kernel_rfl
theorem endS_6 : endS 6 = ⟨#[48, 34]⟩ := by kernel_rfl
theorem endS_7 : endS 7 = ⟨#[48, 48, 92, 117, 100, 99, 48, 48, 34]⟩ := by kernel_rfl
theorem endS_8 : endS 8 = ⟨#[48, 92, 117, 100, 99, 48, 48, 34]⟩ := by kernel_rfl
theorem endS_9 : endS 9 = ⟨#[92, 117, 100, 99, 48, 48, 34]⟩ := by kernel_rfl
theorem endS_10 : endS 10 = ⟨#[117, 100, 99, 48, 48, 34]⟩ := by kernel_rfl
theorem endS_11 : endS 11 = ⟨#[100, 99, 48, 48, 34]⟩ := by kernel_rfl
theorem endS_12 : endS 12 = ⟨#[99, 48, 48, 34]⟩ := by kernel_rfl
theorem endS_13 : endS 13 = ⟨#[128, 34]⟩ := by kernel_rfl
theorem endS_14 : endS 14 = ⟨#[128, 128, 34]⟩ := by kernel_rfl
theorem endS_15 : endS 15 = ⟨#[160, 128, 34]⟩ := by kernel_rfl
theorem endS_16 : endS 16 = ⟨#[144, 128, 128, 34]⟩ := by kernel_rfl
theorem endS_17 : endS 17 = ⟨#[128, 128, 128, 34]⟩ := by kernel_rfl

set_option maxRecDepth 100000 in
theorem ends_any (w : World) : Calls Tryd.prog 33 #[] w fun e w' => e = .returned (.slice (some ⟨w.heap.size, 0, none⟩) 18 18) ∧ w' = w.alloc (.cells #[.string ⟨#[34, 34]⟩, .string ⟨#[34]⟩, .string ⟨#[110, 34]⟩, .string ⟨#[48, 48, 48, 48, 34]⟩, .string ⟨#[48, 48, 48, 34]⟩, .string ⟨#[48, 48, 34]⟩, .string ⟨#[48, 34]⟩, .string ⟨#[48, 48, 92, 117, 100, 99, 48, 48, 34]⟩, .string ⟨#[48, 92, 117, 100, 99, 48, 48, 34]⟩, .string ⟨#[92, 117, 100, 99, 48, 48, 34]⟩, .string ⟨#[117, 100, 99, 48, 48, 34]⟩, .string ⟨#[100, 99, 48, 48, 34]⟩, .string ⟨#[99, 48, 48, 34]⟩, .string ⟨#[128, 34]⟩, .string ⟨#[128, 128, 34]⟩, .string ⟨#[160, 128, 34]⟩, .string ⟨#[144, 128, 128, 34]⟩, .string ⟨#[128, 128, 128, 34]⟩] 9) := by
  go_enter Tryd.func33, Tryd.ntmps33
  go_wp2_with fail
  go_ret
  exact ⟨rfl, rfl⟩
theorem ends_cell (w : World) (g : Nat) (h : Blk w g 9 #[.string ⟨#[34, 34]⟩, .string ⟨#[34]⟩, .string ⟨#[110, 34]⟩, .string ⟨#[48, 48, 48, 48, 34]⟩, .string ⟨#[48, 48, 48, 34]⟩, .string ⟨#[48, 48, 34]⟩, .string ⟨#[48, 34]⟩, .string ⟨#[48, 48, 92, 117, 100, 99, 48, 48, 34]⟩, .string ⟨#[48, 92, 117, 100, 99, 48, 48, 34]⟩, .string ⟨#[92, 117, 100, 99, 48, 48, 34]⟩, .string ⟨#[117, 100, 99, 48, 48, 34]⟩, .string ⟨#[100, 99, 48, 48, 34]⟩, .string ⟨#[99, 48, 48, 34]⟩, .string ⟨#[128, 34]⟩, .string ⟨#[128, 128, 34]⟩, .string ⟨#[160, 128, 34]⟩, .string ⟨#[144, 128, 128, 34]⟩, .string ⟨#[128, 128, 128, 34]⟩]) (k : Nat) (hk : k < 18) : w.cell? ⟨g, k, none⟩ = some (.string (endS k)) := by
  rw [h.cell k]
  have : k = 0 ∨ k = 1 ∨ k = 2 ∨ k = 3 ∨ k = 4 ∨ k = 5 ∨ k = 6 ∨ k = 7 ∨ k = 8 ∨ k = 9 ∨ k = 10 ∨ k = 11 ∨ k = 12 ∨ k = 13 ∨ k = 14 ∨ k = 15 ∨ k = 16 ∨ k = 17 := by omega
  rcases this with rfl | rfl | rfl | rfl | rfl | rfl | rfl | rfl | rfl | rfl | rfl | rfl | rfl | rfl | rfl | rfl | rfl | rfl
  · rw [endS_0]; rfl
  · rw [endS_1]; rfl
  · rw [endS_2]; rfl
  · rw [endS_3]; rfl
  · rw [endS_4]; rfl
  · rw [endS_5]; rfl
  · rw [endS_6]; rfl
  · rw [endS_7]; rfl
  · rw [endS_8]; rfl
  · rw [endS_9]; rfl
  · rw [endS_10]; rfl
  · rw [endS_11]; rfl
  · rw [endS_12]; rfl
  · rw [endS_13]; rfl
  · rw [endS_14]; rfl
  · rw [endS_15]; rfl
  · rw [endS_16]; rfl
  · rw [endS_17]; rfl

set_option maxRecDepth 100000 in
set_option maxHeartbeats 1500000 in
theorem goes_any (p : ByteArray) (hp : p.size ≤ 2000000) (G : Bool) (hy : ∀ j, j < 18 → ∀ t, unqQ (p ++ endS j) (scanQ (p ++ endS j) 0) = .ok t → G = true) (hno : (∀ j, j < 18 → ∃ i, unqQ (p ++ endS j) (scanQ (p ++ endS j) 0) = .error i) → G = false) (a : Nat → Addr) (w : World) (he : Errs w a) (hsh : Shorts w) :
    Calls Tryd.prog 22 #[.string p] w fun e w' => e = .returned (.bool G) ∧ Below w.heap.size w w' := by
  have HE9 := Lib.hid (fun k (hk : k < 18) => (show (endS k).size ≤ 9 by
    have : k = 0 ∨ k = 1 ∨ k = 2 ∨ k = 3 ∨ k = 4 ∨ k = 5 ∨ k = 6 ∨ k = 7 ∨ k = 8 ∨ k = 9 ∨ k = 10 ∨ k = 11 ∨ k = 12 ∨ k = 13 ∨ k = 14 ∨ k = 15 ∨ k = 16 ∨ k = 17 := by omega
    rcases this with rfl | rfl | rfl | rfl | rfl | rfl | rfl | rfl | rfl | rfl | rfl | rfl | rfl | rfl | rfl | rfl | rfl | rfl <;> decide +kernel))
  have HU := Lib.hid (fun k (hk : k < 18) wx (hb : Below w.heap.size w wx) => unquote_at (p ++ endS k) (by
    have h1 : (p ++ endS k).size = p.size + (endS k).size := by simp
    have h2 := HE9.out k hk
    omega) a wx (he.below hb) (hsh.below hb))
  unfold UnqPost at HU
  have HY := Lib.hid hy
  have HN := Lib.hid hno
  have HEN := Lib.hid (ends_any w)
  clear hy hno he hsh
  go_enter Tryd.func22, Tryd.ntmps22
  go_wp2_with fail
  refine HEN.out.mono ?_
  rintro e w1 ⟨rfl, hw1⟩
  have HK := Lib.hid (Blk.new w 9 #[.string ⟨#[34, 34]⟩, .string ⟨#[34]⟩, .string ⟨#[110, 34]⟩, .string ⟨#[48, 48, 48, 48, 34]⟩, .string ⟨#[48, 48, 48, 34]⟩, .string ⟨#[48, 48, 34]⟩, .string ⟨#[48, 34]⟩, .string ⟨#[48, 48, 92, 117, 100, 99, 48, 48, 34]⟩, .string ⟨#[48, 92, 117, 100, 99, 48, 48, 34]⟩, .string ⟨#[92, 117, 100, 99, 48, 48, 34]⟩, .string ⟨#[117, 100, 99, 48, 48, 34]⟩, .string ⟨#[100, 99, 48, 48, 34]⟩, .string ⟨#[99, 48, 48, 34]⟩, .string ⟨#[128, 34]⟩, .string ⟨#[128, 128, 34]⟩, .string ⟨#[160, 128, 34]⟩, .string ⟨#[144, 128, 128, 34]⟩, .string ⟨#[128, 128, 128, 34]⟩])
  have HB0 : Hid (Below w.heap.size w (w.alloc (.cells #[.string ⟨#[34, 34]⟩, .string ⟨#[34]⟩, .string ⟨#[110, 34]⟩, .string ⟨#[48, 48, 48, 48, 34]⟩, .string ⟨#[48, 48, 48, 34]⟩, .string ⟨#[48, 48, 34]⟩, .string ⟨#[48, 34]⟩, .string ⟨#[48, 48, 92, 117, 100, 99, 48, 48, 34]⟩, .string ⟨#[48, 92, 117, 100, 99, 48, 48, 34]⟩, .string ⟨#[92, 117, 100, 99, 48, 48, 34]⟩, .string ⟨#[117, 100, 99, 48, 48, 34]⟩, .string ⟨#[100, 99, 48, 48, 34]⟩, .string ⟨#[99, 48, 48, 34]⟩, .string ⟨#[128, 34]⟩, .string ⟨#[128, 128, 34]⟩, .string ⟨#[160, 128, 34]⟩, .string ⟨#[144, 128, 128, 34]⟩, .string ⟨#[128, 128, 128, 34]⟩] 9))) := Lib.hid ((Below.refl _ _).alloc (Nat.le_refl _) _)
  have HSZ : Hid ((w.alloc (.cells #[.string ⟨#[34, 34]⟩, .string ⟨#[34]⟩, .string ⟨#[110, 34]⟩, .string ⟨#[48, 48, 48, 48, 34]⟩, .string ⟨#[48, 48, 48, 34]⟩, .string ⟨#[48, 48, 34]⟩, .string ⟨#[48, 34]⟩, .string ⟨#[48, 48, 92, 117, 100, 99, 48, 48, 34]⟩, .string ⟨#[48, 92, 117, 100, 99, 48, 48, 34]⟩, .string ⟨#[92, 117, 100, 99, 48, 48, 34]⟩, .string ⟨#[117, 100, 99, 48, 48, 34]⟩, .string ⟨#[100, 99, 48, 48, 34]⟩, .string ⟨#[99, 48, 48, 34]⟩, .string ⟨#[128, 34]⟩, .string ⟨#[128, 128, 34]⟩, .string ⟨#[160, 128, 34]⟩, .string ⟨#[144, 128, 128, 34]⟩, .string ⟨#[128, 128, 128, 34]⟩] 9)).heap.size = w.heap.size + 1) := Lib.hid (by simp)
  rw [← hw1] at HK HB0 HSZ
  clear hw1 HEN
  generalize hg : w.heap.size = g at *
  go_wp2_with fail
  go_loopw [2, 4] (fun _ v4 wr => ∃ k : Nat, v4 = .int .i64 k ∧ k ≤ 18 ∧ (∀ j, j < k → ∃ i, unqQ (p ++ endS j) (scanQ (p ++ endS j) 0) = .error i) ∧ Below (g + 1) w1 wr) (fun _ v4 _ => 18 - (intOf v4).toNat)
  case atStart => exact ⟨0, rfl, by omega, fun j hj => absurd hj (by omega), Below.refl _ _⟩
  case round =>
    obtain ⟨k, rfl, hk, herr, hbel⟩ := hrel
    have HERR := Lib.hid herr
    have HBE := Lib.hid hbel
    have HBW : Hid (Below g w wr) := Lib.hid (HB0.out.trans (hbel.mono (Nat.le_succ _)))
    clear herr hbel
    by_cases h18 : k < 18
    · have h18' : (k : Int) < 18 := by omega
      have k0 : 0 ≤ (k : Int) := by omega
      have ck := ends_cell wr g (HK.out.below HBE.out (Nat.lt_succ_self _)) k h18
      have UK := Lib.hid (HU.out k h18 wr HBW.out)
      cases hR : unqQ (p ++ endS k) (scanQ (p ++ endS k) 0) with
      | ok t =>
        rw [hR] at UK
        simp only [] at UK
        have HG : Hid (G = true) := Lib.hid (HY.out k h18 t hR)
        clear hR HU HY HN
        have hs9 := HE9.out k h18
        clear HE9 HERR
        generalize endS k = E at *
        have hs1 : p.size + E.size ≤ 3000000 := by omega
        have hs2 : (p.size : Int) + (E.size : Int) ≤ 3000000 := by omega
        go_wp2_with fail
        refine UK.out.mono ?_
        rintro e w2 ⟨hb2, rfl⟩
        have HB2 : Hid (Below g w w2) := Lib.hid (HBW.out.trans (hb2.mono (by have := HBW.out.size; omega)))
        clear hb2 UK
        go_wp2_with fail
        go_ret
        exact ⟨by rw [HG.out] <;> rfl, by rw [hg]; exact HB2.out⟩
      | error i =>
        rw [hR] at UK
        simp only [] at UK
        have HI : Hid (∃ i, unqQ (p ++ endS k) (scanQ (p ++ endS k) 0) = .error i) := Lib.hid ⟨i, hR⟩
        clear hR
        have e1 := Lib.hid (IntWalk.i64_in ((k : Int) + 1) (by omega))
        have e1 := e1.out
        obtain ⟨E, hE⟩ : ∃ E, endS k = E := ⟨_, rfl⟩
        rw [hE] at UK ck
        have hs9 := HE9.out k h18
        rw [hE] at hs9
        have hs1 : p.size + E.size ≤ 3000000 := by omega
        have hs2 : (p.size : Int) + (E.size : Int) ≤ 3000000 := by omega
        clear hE
        go_wp2_with fail
        refine UK.out.mono ?_
        rintro e w2 ⟨hb2, g2, rfl, -⟩
        have HB2 : Hid (Below (g + 1) w1 w2) := Lib.hid (HBE.out.trans (hb2.mono (by have := HBE.out.size; have := HSZ.out; omega)))
        clear hb2 UK
        go_wp2_with fail
        go_roundw
        case rel => exact ⟨k + 1, by go_num, by omega, fun j hj => by
          by_cases q : j < k
          · exact HERR.out j q
          · obtain rfl : j = k := by omega
            exact HI.out, HB2.out⟩
        case measure => simp [intOf]; omega
    · obtain rfl : k = 18 := by omega
      have HG : Hid (G = false) := Lib.hid (HN.out HERR.out)
      clear HU
      go_wp2_with fail
      go_ret
      exact ⟨by rw [HG.out] <;> rfl, by rw [hg]; exact HBW.out⟩
end Go.Proofs.YtiignmjglihbnaaDoor
