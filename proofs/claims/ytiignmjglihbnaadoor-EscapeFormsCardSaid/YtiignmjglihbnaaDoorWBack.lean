/- cruciblelaw10.EscapeBack: true. -/
import Derived.Test.YtiignmjglihbnaaDoorLives10
import Derived.Test.YtiignmjglihbnaaDoorBack
namespace Go.Proofs.YtiignmjglihbnaaDoor
open Go.RowKit
set_option linter.unusedVariables false

theorem escB_ge (c : Nat) : 1 ≤ (escB c).length ∧ ∀ x ∈ escB c, 32 ≤ x := by
  unfold escB
  have h16 : 32 ≤ hexd (c % 16) := by unfold hexd; split <;> omega
  repeat' split
  all_goals refine ⟨by simp, fun x hx => ?_⟩
  all_goals simp at hx
  all_goals omega
theorem outB_ge (s : ByteArray) (k : Nat) : k + 1 ≤ (outB s k).length ∧ ∀ x ∈ outB s k, 32 ≤ x := by
  induction k with
  | zero => exact ⟨Nat.le_refl _, fun x hx => by simp [outB] at hx; omega⟩
  | succ k ih =>
    rw [outB_succ]
    have h := escB_ge (bt s k)
    refine ⟨by rw [List.length_append]; omega, fun x hx => ?_⟩
    rcases List.mem_append.1 hx with hx | hx
    · exact ih.2 x hx
    · exact h.2 x hx
theorem lit_ge (s : ByteArray) : s.size + 2 ≤ (litB s).size ∧ (litB s).size ≤ 6 * s.size + 2 ∧ ∀ i, i < (litB s).size → 32 ≤ bt (litB s) i := by
  have hby : ByteL (outB s s.size ++ [34]) := by
    intro x hx
    rcases List.mem_append.1 hx with hx | hx
    · exact outB_lt s s.size (Nat.le_refl _) x hx
    · simp at hx; omega
  have h := outB_ge s s.size
  have h2 := outB_len s s.size
  have hsz : (litB s).size = (outB s s.size).length + 1 := by
    unfold litB
    rw [strOf_size, List.length_append]; rfl
  refine ⟨by omega, by omega, fun i hi => ?_⟩
  have hi' : i < (outB s s.size ++ [34]).length := by rw [List.length_append]; show i < _ + 1; omega
  unfold litB
  rw [bt_strOf _ hby i hi']
  have hm : (outB s s.size ++ [34]).getD i 0 ∈ outB s s.size ++ [34] := by
    simp only [List.getD, List.getElem?_eq_getElem hi', Option.getD_some]
    exact List.getElem_mem hi'
  rcases List.mem_append.1 hm with k | k
  · exact h.2 _ k
  · simp only [List.mem_singleton] at k; omega
theorem unq_back (s : ByteArray) (ht : isTextB s = true) : unqQ (litB s) (scanQ (litB s) 0) = .ok (bytesOf s) := by
  rw [back_law s ht]
  exact if_neg (Nat.lt_irrefl _)

set_option maxRecDepth 100000 in
set_option maxHeartbeats 1500000 in
theorem wback (s : ByteArray) (hs : s.size ≤ 1048576) (a : Nat → Addr) (w : World) (he : Errs w a) (hsh : Shorts w) :
    Calls Tryd.prog 6 #[.string s] w fun e w' => e = .returned (.bool true) ∧ Below w.heap.size w w' := by
  have HL := Lib.hid (lives_any a w he hsh)
  have HBD := Lib.hid (fun wx => bad_any s (by omega) wx)
  by_cases ht : isTextB s = true
  · have HQ := Lib.hid (fun wx (hb : Below w.heap.size w wx) => quote_yes s hs ht wx (hsh.below hb))
    obtain ⟨hz1, hz2, hz3⟩ := lit_ge s
    have HU := Lib.hid (fun wx (hb : Below w.heap.size w wx) => unquote_at (litB s) (by omega) a wx (he.below hb) (hsh.below hb))
    rw [unq_back s ht] at HU
    unfold UnqPost at HU
    simp only [] at HU
    rw [strOf_bytes] at HU
    have hbs : badAt s = s.size := by
      have := isText_bad s
      rw [ht] at this
      exact of_decide_eq_true this.symm
    rw [hbs] at HBD
    have HZ3 := Lib.hid hz3
    have z1 : ¬ (((litB s).size : Int) < (s.size : Int) + 2) := by omega
    have e1 := Lib.hid (IntWalk.i64_in ((s.size : Int) + 2) (by omega))
    have e1 := e1.out
    have HZS : Hid ((litB s).size ≤ 100000000) := Lib.hid (by omega)
    clear he hsh ht hbs hz1 hz2 hz3
    generalize litB s = Z at *
    go_enter Tryd.func6, Tryd.ntmps6
    go_wp2_with fail
    refine HL.out.mono ?_
    rintro e w1 ⟨rfl, hb1⟩
    have HB1 := Lib.hid hb1
    clear hb1
    go_wp2_with fail
    refine (HQ.out w1 HB1.out).mono ?_
    rintro e w2 ⟨rfl, hb2⟩
    have HB2 : Hid (Below w.heap.size w w2) := Lib.hid (HB1.out.trans (hb2.mono HB1.out.size))
    clear hb2
    go_wp2_with fail
    refine (HBD.out w2).mono ?_
    rintro e w3 ⟨rfl, rfl⟩
    go_wp2_with fail
    refine (HU.out w2 HB2.out).mono ?_
    rintro e w4 ⟨hb4, rfl⟩
    have HB4 : Hid (Below w.heap.size w w4) := Lib.hid (HB2.out.trans (hb4.mono HB2.out.size))
    clear hb4
    go_wp2_with fail
    go_loopw [2, 7] (fun _ v7 wr => (∃ k : Nat, v7 = .int .i64 k ∧ k ≤ Z.size) ∧ wr = w4) (fun _ v7 _ => Z.size - (intOf v7).toNat)
    case atStart => exact ⟨⟨0, rfl, Nat.zero_le _⟩, rfl⟩
    case round =>
      obtain ⟨⟨k, rfl, hk⟩, rfl⟩ := hrel
      by_cases hlt : k < Z.size
      · have h32 := HZ3.out k hlt
        rw [bt_in hlt] at h32
        have hlt' : (k : Int) < (Z.size : Int) := by omega
        have k0 : 0 ≤ (k : Int) := by omega
        have h32' : ¬ ((Z[k].toNat : Int) < 32) := by omega
        have e2 := Lib.hid (IntWalk.i64_in ((k : Int) + 1) (by have := HZS.out; omega))
        have e2 := e2.out
        clear h32
        go_wp2_with fail
        go_roundw
        case rel => exact ⟨⟨k + 1, by go_num, by omega⟩, trivial⟩
        case measure => simp [intOf]; omega
      · obtain rfl : k = Z.size := by omega
        go_wp2_with fail
        go_ret
        exact ⟨rfl, HB4.out⟩
  · have ht' : isTextB s = false := by simpa using ht
    have HQ := Lib.hid (fun wx => quote_no s hs ht' wx)
    have hbs : badAt s < s.size := by
      have h1 := isText_bad s
      rw [ht'] at h1
      have h2 : ¬ badAt s = s.size := of_decide_eq_false h1.symm
      have h3 : badAt s ≤ s.size := bad_le (bt s) s.size (bt_outs s) s.size 0 (Nat.zero_le _)
      omega
    have z1 : ((badAt s : Int) == (s.size : Int)) = false := by rw [beq_eq_false_iff_ne]; omega
    clear he hsh ht ht' hbs
    generalize badAt s = b at *
    go_enter Tryd.func6, Tryd.ntmps6
    go_wp2_with fail
    refine HL.out.mono ?_
    rintro e w1 ⟨rfl, hb1⟩
    have HB1 := Lib.hid hb1
    clear hb1
    go_wp2_with fail
    refine (HQ.out w1).mono ?_
    rintro e w2 ⟨rfl, hb2⟩
    have HB2 : Hid (Below w.heap.size w w2) := Lib.hid (HB1.out.trans (hb2.mono HB1.out.size))
    clear hb2
    go_wp2_with fail
    refine (HBD.out w2).mono ?_
    rintro e w3 ⟨rfl, rfl⟩
    go_wp2_with fail
    go_ret
    exact ⟨by first | rfl | simp, HB2.out⟩
theorem wbackB (s : ByteArray) (hs : s.size ≤ 1048576) (a : Nat → Addr) (w : World) (he : Errs w a) (hsh : Shorts w) :
    Calls Tryd.prog 6 #[.string s] w fun e w' => e = .returned (.bool true) ∧ Below w.heap.size w w' := wback s hs a w he hsh
end Go.Proofs.YtiignmjglihbnaaDoor
