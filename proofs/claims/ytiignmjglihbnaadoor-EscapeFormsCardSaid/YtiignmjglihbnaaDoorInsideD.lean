/- The contract of (*crucibleref10.State).inside. -/
import Derived.Test.YtiignmjglihbnaaDoorInsideA
import Derived.Test.YtiignmjglihbnaaDoorInsideB
import Derived.Test.YtiignmjglihbnaaDoorInsideC
namespace Go.Proofs.YtiignmjglihbnaaDoor
open Go.RowKit

theorem inside_any (w : World) (base g : Nat) (s : St) (c : Nat) (hc : c < 256) (hs : StAt w base g s) (hg : base ≤ g) (hbs : base ≤ w.heap.size) (hl : s.text.length ≤ 140737488355000) :
    Calls Tryd.prog 37 #[.pointer (some ⟨g, 0, none⟩), .int .u8 c] w (StPost w base g (inside s c).1 (inside s c).2) := by
  unfold inside
  by_cases h1 : c = 34
  · subst h1; exact inside_quote w base g s hs hg
  rw [if_neg h1]
  by_cases h2 : c = 92
  · subst h2; exact inside_stroke w base g s hs hg
  rw [if_neg h2]
  by_cases h3 : c < 32 ∨ (127 < c ∧ c < 194) ∨ 244 < c
  · rw [if_pos h3]
    rcases h3 with h3 | ⟨h3, h4⟩ | h3
    · exact inside_low w base g s hs c h3
    · exact inside_mid w base g s hs c h3 h4
    · exact inside_high w base g s hs c h3
  rw [if_neg h3]
  by_cases h4 : c < 128
  · rw [if_pos h4]; exact inside_ascii w base g s hs hg hbs hl c (by omega) h4 h1 h2
  rw [if_neg h4]
  unfold loB hiB
  by_cases e1 : c = 224
  · subst e1; exact inside_mb w base g s hs hg hbs hl
  by_cases e2 : c = 237
  · subst e2; exact inside_md w base g s hs hg hbs hl
  by_cases e3 : c = 240
  · subst e3; exact inside_mf w base g s hs hg hbs hl
  by_cases e4 : c = 244
  · subst e4; exact inside_mh w base g s hs hg hbs hl
  rw [if_neg e1, if_neg e2, if_neg e3, if_neg e4]
  by_cases g1 : c < 224
  · rw [if_neg (by omega), if_neg (by omega)]; exact inside_ma w base g s hs hg hbs hl c (by omega) g1
  by_cases g2 : c < 237
  · rw [if_neg (by omega), if_pos (by omega)]; exact inside_mc w base g s hs hg hbs hl c (by omega) g2
  by_cases g3 : c < 240
  · rw [if_neg (by omega), if_pos (by omega)]; exact inside_me w base g s hs hg hbs hl c (by omega) g3
  · rw [if_pos (by omega)]; exact inside_mg w base g s hs hg hbs hl c (by omega) (by omega)
end Go.Proofs.YtiignmjglihbnaaDoor
