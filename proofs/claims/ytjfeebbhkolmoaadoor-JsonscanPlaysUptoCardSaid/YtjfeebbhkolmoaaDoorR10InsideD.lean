/- The contract of (*crucibleref10.State).inside. -/
import Derived.Test.YtjfeebbhkolmoaaDoorR10InsideA
import Derived.Test.YtjfeebbhkolmoaaDoorR10InsideB
import Derived.Test.YtjfeebbhkolmoaaDoorR10InsideC
namespace Go.Proofs.YtjfeebbhkolmoaaDoor.R
open Go.RowKit

theorem inside_any (w : World) (S : Nat → Prop) (g : Nat) (s : St) (c : Nat) (hc : c < 256) (hs : StAt w S g s) (hl : s.text.length ≤ 140737488355000) :
    Calls Tryd.prog 87 #[.pointer (some ⟨g, 3, none⟩), .int .u8 c] w (StPost w S g (inside s c).1 (inside s c).2) := by
  unfold inside
  by_cases h1 : c = 34
  · subst h1; exact inside_quote w S g s hs
  rw [if_neg h1]
  by_cases h2 : c = 92
  · subst h2; exact inside_stroke w S g s hs
  rw [if_neg h2]
  by_cases h3 : c < 32 ∨ (127 < c ∧ c < 194) ∨ 244 < c
  · rw [if_pos h3]
    rcases h3 with h3 | ⟨h3, h4⟩ | h3
    · exact inside_low w S g s hs c h3
    · exact inside_mid w S g s hs c h3 h4
    · exact inside_high w S g s hs c h3
  rw [if_neg h3]
  by_cases h4 : c < 128
  · rw [if_pos h4]; exact inside_ascii w S g s hs hl c (by omega) h4 h1 h2
  rw [if_neg h4]
  unfold loB hiB
  by_cases e1 : c = 224
  · subst e1; exact inside_mb w S g s hs hl
  by_cases e2 : c = 237
  · subst e2; exact inside_md w S g s hs hl
  by_cases e3 : c = 240
  · subst e3; exact inside_mf w S g s hs hl
  by_cases e4 : c = 244
  · subst e4; exact inside_mh w S g s hs hl
  rw [if_neg e1, if_neg e2, if_neg e3, if_neg e4]
  by_cases g1 : c < 224
  · rw [if_neg (by omega), if_neg (by omega)]; exact inside_ma w S g s hs hl c (by omega) g1
  by_cases g2 : c < 237
  · rw [if_neg (by omega), if_pos (by omega)]; exact inside_mc w S g s hs hl c (by omega) g2
  by_cases g3 : c < 240
  · rw [if_neg (by omega), if_pos (by omega)]; exact inside_me w S g s hs hl c (by omega) g3
  · rw [if_pos (by omega)]; exact inside_mg w S g s hs hl c (by omega) (by omega)
end Go.Proofs.YtjfeebbhkolmoaaDoor.R
