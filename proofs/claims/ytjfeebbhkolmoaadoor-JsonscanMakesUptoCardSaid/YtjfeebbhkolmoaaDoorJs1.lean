/- Contracts of jsonscan.to, blank, digit. -/
import Derived.Test.YtjfeebbhkolmoaaDoorJs0
namespace Go.Proofs.YtjfeebbhkolmoaaDoor
open Go.RowKit
set_option linter.unusedVariables false

set_option maxRecDepth 100000 in
theorem to_any (w : World) (S : Nat → Prop) (g : Nat) (s : Sc) (k : Nat) (d : Bool) (hs : ScAt w S g s) :
    Calls Tryd.prog 44 #[.pointer (some ⟨g, 0, none⟩), .func (.func k) #[.pointer (some ⟨g, 0, none⟩)] #[], .bool d] w (ScPost w S g (sTo s k d, 0)) := by
  have HS := Lib.hid ((hs.store 0 (.func (.func k) #[.pointer (some ⟨g, 0, none⟩)] #[]) { s with k := k } (fun _ => rfl) rfl).store 2 (.bool d) (sTo s k d) (fun _ => rfl) rfl)
  have HM := Lib.hid hs.mem
  obtain ⟨v, hb, ho, rfl⟩ := hs
  have c0 := hb.cell 0
  have c2 := hb.cell 2
  have f0 := hb.frozen 0
  have f2 := hb.frozen 2
  unfold scCells at c0 c2
  clear hb ho
  go_enter Tryd.func44, Tryd.ntmps44
  go_wp2_with fail
  go_ret
  exact ⟨rfl, _, HS.out, ((Keeps.refl _ w).setCell (p := ⟨g, 0, none⟩) (.inl (.inl rfl)) _).setCell (p := ⟨g, 2, none⟩) (.inl (.inl rfl)) _, Fresh.refl _ _⟩

set_option maxRecDepth 100000 in
theorem blank_any (c : Nat) (w : World) :
    Calls Tryd.prog 43 #[.int .u8 c] w fun e w' => e = .returned (.bool (blankB c)) ∧ w = w' := by
  by_cases h1 : c = 32
  · subst h1
    go_enter Tryd.func43, Tryd.ntmps43
    go_wp2_with fail
    go_ret
    exact ⟨rfl, rfl⟩
  by_cases h2 : c = 10
  · subst h2
    go_enter Tryd.func43, Tryd.ntmps43
    go_wp2_with fail
    go_ret
    exact ⟨rfl, rfl⟩
  by_cases h3 : c = 13
  · subst h3
    go_enter Tryd.func43, Tryd.ntmps43
    go_wp2_with fail
    go_ret
    exact ⟨rfl, rfl⟩
  by_cases h4 : c = 9
  · subst h4
    go_enter Tryd.func43, Tryd.ntmps43
    go_wp2_with fail
    go_ret
    exact ⟨rfl, rfl⟩
  have q1 : ((c : Int) == 32) = false := eqF (by omega)
  have q2 : ((c : Int) == 10) = false := eqF (by omega)
  have q3 : ((c : Int) == 13) = false := eqF (by omega)
  have q4 : ((c : Int) == 9) = false := eqF (by omega)
  have HB : Hid (blankB c = false) := Lib.hid (by simp [blankB, h1, h2, h3, h4])
  clear h1 h2 h3 h4
  go_enter Tryd.func43, Tryd.ntmps43
  go_wp2_with fail
  go_ret
  exact ⟨by rw [HB.out] <;> rfl, rfl⟩

set_option maxRecDepth 100000 in
theorem digit_any (c : Nat) (w : World) :
    Calls Tryd.prog 50 #[.int .u8 c] w fun e w' => e = .returned (.bool (digitB c)) ∧ w = w' := by
  by_cases h1 : 48 ≤ c
  · by_cases h2 : c ≤ 57
    · have q1 : 48 ≤ (c : Int) := by omega
      have q2 : (c : Int) ≤ 57 := by omega
      have HB : Hid (digitB c = true) := Lib.hid (by simp [digitB, h1, h2])
      clear h1 h2
      go_enter Tryd.func50, Tryd.ntmps50
      go_wp2_with fail
      go_ret
      exact ⟨by rw [HB.out] <;> rfl, rfl⟩
    · have q1 : 48 ≤ (c : Int) := by omega
      have q2 : ¬ (c : Int) ≤ 57 := by omega
      have HB : Hid (digitB c = false) := Lib.hid (by simp [digitB, h2])
      clear h1 h2
      go_enter Tryd.func50, Tryd.ntmps50
      go_wp2_with fail
      go_ret
      exact ⟨by rw [HB.out] <;> rfl, rfl⟩
  · have q1 : ¬ 48 ≤ (c : Int) := by omega
    have HB : Hid (digitB c = false) := Lib.hid (by simp [digitB, h1])
    clear h1
    go_enter Tryd.func50, Tryd.ntmps50
    go_wp2_with fail
    go_ret
    exact ⟨by rw [HB.out] <;> rfl, rfl⟩

set_option maxRecDepth 100000 in
theorem minus_any (w : World) (S : Nat → Prop) (g : Nat) (s : Sc) (c : Nat) (hs : ScAt w S g s) :
    Calls Tryd.prog 48 #[.pointer (some ⟨g, 0, none⟩), .int .u8 c] w (ScPost w S g (pMinus s c)) := by
  have hmf : ∀ (fn : Fn) (first cap : Array Value) (w : World), (Instr.makeFunc fn first cap).run Tryd.prog w = .ok (.func fn first cap) w := fun _ _ _ _ => rfl
  have HD := Lib.hid (digit_any c w)
  have HS := Lib.hid hs
  clear hs
  unfold pMinus
  by_cases h1 : c = 48
  · rw [if_pos h1]
    subst h1
    have HT := Lib.hid (to_any w S g s jZero true HS.out)
    unfold jZero at HT
    go_enter Tryd.func48, Tryd.ntmps48
    go_wp2_with fail
    refine HT.out.mono ?_
    rintro e w2 ⟨rfl, h2⟩
    have H2 := Lib.hid h2
    clear h2
    go_wp2_with fail
    go_ret
    exact ⟨rfl, H2.out⟩
  rw [if_neg h1]
  have q1 : ((c : Int) == 48) = false := eqF (by omega)
  clear h1
  cases hd : digitB c
  · rw [hd] at HD
    rw [if_neg (by simp)]
    clear hd
    go_enter Tryd.func48, Tryd.ntmps48
    go_wp2_with fail
    refine HD.out.mono ?_
    rintro e w2 ⟨rfl, rfl⟩
    go_wp2_with fail
    go_ret
    exact ScPost.stay HS.out 3
  · rw [hd] at HD
    rw [if_pos rfl]
    clear hd
    have HT := Lib.hid (to_any w S g s jDigits true HS.out)
    unfold jDigits at HT
    go_enter Tryd.func48, Tryd.ntmps48
    go_wp2_with fail
    refine HD.out.mono ?_
    rintro e w2 ⟨rfl, rfl⟩
    go_wp2_with fail
    refine HT.out.mono ?_
    rintro e w2 ⟨rfl, h2⟩
    have H2 := Lib.hid h2
    clear h2
    go_wp2_with fail
    go_ret
    exact ⟨rfl, H2.out⟩
end Go.Proofs.YtjfeebbhkolmoaaDoor
