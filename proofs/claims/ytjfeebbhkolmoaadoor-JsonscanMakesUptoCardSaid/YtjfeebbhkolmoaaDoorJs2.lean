/- Contract of (*jsonscan.Scanner).after. -/
import Derived.Test.YtjfeebbhkolmoaaDoorJs1
namespace Go.Proofs.YtjfeebbhkolmoaaDoor
open Go.RowKit
set_option linter.unusedVariables false

theorem ScAt.cell {w : World} {S : Nat → Prop} {g : Nat} {s : Sc} (h : ScAt w S g s) (i : Nat) (u : Value) (hu : ∀ v, (scCells g s v)[i]? = some u) : w.cell? ⟨g, i, none⟩ = some u := by
  obtain ⟨v, hb, -, -⟩ := h
  rw [hb.cell i]; exact hu v
theorem ScAt.fz {w : World} {S : Nat → Prop} {g : Nat} {s : Sc} (h : ScAt w S g s) (i : Nat) : w.frozen? ⟨g, i, none⟩ = false := by
  obtain ⟨v, hb, -, -⟩ := h
  exact hb.frozen i
/-- no bracket is open -/
theorem ScAt.none_ {w : World} {S : Nat → Prop} {g : Nat} {s : Sc} (h : ScAt w S g s) (h0 : s.open_ = []) : ∃ A cp, w.cell? ⟨g, 1, none⟩ = some (.slice A 0 cp) ∧ cp ≤ 9223372036854775807 := by
  obtain ⟨v, hb, ho, -⟩ := h
  rw [h0] at ho
  obtain ⟨A, c, rfl, h1, h2, h3, h4⟩ := own_rd ho
  exact ⟨A, c, hb.cell 1, h2⟩
/-- some are -/
theorem ScAt.some_ {w : World} {S : Nat → Prop} {g : Nat} {s : Sc} (h : ScAt w S g s) (l : List Nat) (x : Nat) (h0 : s.open_ = l ++ [x]) :
    ∃ b off cp, w.cell? ⟨g, 1, none⟩ = some (.slice (some ⟨b, off, none⟩) (l.length + 1) cp) ∧ w.cell? ⟨b, off + l.length, none⟩ = some (.int .u8 (x : Int)) ∧ l.length + 1 ≤ cp ∧ cp ≤ 9223372036854775807 ∧
      ScAt (w.setCell ⟨g, 1, none⟩ (.slice (some ⟨b, off, none⟩) l.length cp)) S g { s with open_ := l } := by
  obtain ⟨v, hb, ho, hS⟩ := h
  have hl : s.open_.length = l.length + 1 := by rw [h0]; simp
  have hne := ScAt.ne hb ho
  rw [hl, h0] at ho
  obtain ⟨A, c, rfl, h1, h2, h3, h4⟩ := own_rd ho
  have hx : (vals .u8 (l ++ [x]))[l.length]? = some (.int .u8 (x : Int)) := by rw [vals_get _ _ _ (by simp)]; simp
  obtain ⟨b, off, rfl, hc⟩ := h4.at_ hx
  refine ⟨b, off, c, hb.cell 1, hc, h1, h2, .slice (some ⟨b, off, none⟩) l.length c, ?_, ?_, hS⟩
  · exact hb.set_ 1 _
  · have h5 := own_cut ho
    rw [vals_take, show (l ++ [x]).take l.length = l from List.take_left] at h5
    exact own_far' h5 hne 1 _
theorem top_of (s : Sc) (l : List Nat) (x c : Nat) (h0 : s.open_ = l ++ [x]) : topIs s c = (x == c) := by unfold topIs; rw [h0]; simp
theorem shut_of (s : Sc) (l : List Nat) (x : Nat) (h0 : s.open_ = l ++ [x]) : sShut s = { s with open_ := l } := by unfold sShut; rw [h0]; simp
theorem open_cases (l : List Nat) : l = [] ∨ ∃ l' x, l = l' ++ [x] := by
  rcases List.eq_nil_or_concat l with h | ⟨l', x, h⟩
  · exact .inl h
  · exact .inr ⟨l', x, by rw [h, List.concat_eq_append]⟩

def mkF : Prop := ∀ (fn : Fn) (first cap : Array Value) (w : World), (Instr.makeFunc fn first cap).run Tryd.prog w = .ok (.func fn first cap) w
theorem mk_f : ∀ (fn : Fn) (first cap : Array Value) (w : World), (Instr.makeFunc fn first cap).run Tryd.prog w = .ok (.func fn first cap) w := fun _ _ _ _ => rfl

set_option maxRecDepth 100000 in
set_option maxHeartbeats 1500000 in
theorem after_none (w : World) (S : Nat → Prop) (g : Nat) (s : Sc) (c : Nat) (hs : ScAt w S g s) (hb : blankB c = false) (h0 : s.open_ = []) :
    Calls Tryd.prog 67 #[.pointer (some ⟨g, 0, none⟩), .int .u8 c] w (ScPost w S g (s, 3)) := by
  have HK := Lib.hid (blank_any c w)
  rw [hb] at HK
  obtain ⟨A, cp, c1, hcp⟩ := hs.none_ h0
  have HS := Lib.hid hs
  clear hs hb h0
  go_enter Tryd.func67, Tryd.ntmps67
  go_wp2_with fail
  refine HK.out.mono ?_
  rintro e w2 ⟨rfl, rfl⟩
  go_wp2_with fail
  go_ret
  exact ScPost.stay HS.out 3

set_option maxRecDepth 100000 in
set_option maxHeartbeats 1500000 in
theorem after_blank (w : World) (S : Nat → Prop) (g : Nat) (s : Sc) (c : Nat) (hs : ScAt w S g s) (hb : blankB c = true) :
    Calls Tryd.prog 67 #[.pointer (some ⟨g, 0, none⟩), .int .u8 c] w (ScPost w S g (sTo s jAfter true, 0)) := by
  have HK := Lib.hid (blank_any c w)
  rw [hb] at HK
  have hmf := mk_f
  have HT := Lib.hid (to_any w S g s jAfter true hs)
  unfold jAfter at HT
  have hc1 : ∃ A n cp, w.cell? ⟨g, 1, none⟩ = some (.slice A n cp) ∧ n ≤ 9223372036854775807 := by
    rcases open_cases s.open_ with h0 | ⟨l, x, h0⟩
    · obtain ⟨A, cp, c1, hcp⟩ := hs.none_ h0
      exact ⟨A, 0, cp, c1, by omega⟩
    · obtain ⟨b, off, cp, c1, -, h1, h2, -⟩ := hs.some_ l x h0
      exact ⟨_, _, cp, c1, by omega⟩
  obtain ⟨A, n, cp, c1, hn⟩ := hc1
  have HS := Lib.hid hs
  clear hs hb
  go_enter Tryd.func67, Tryd.ntmps67
  go_wp2_with fail
  refine HK.out.mono ?_
  rintro e w2 ⟨rfl, rfl⟩
  go_wp2_with fail
  refine HT.out.mono ?_
  rintro e w2 ⟨rfl, h2⟩
  have H2 := Lib.hid h2
  clear h2
  go_wp2_with fail
  go_ret
  exact ⟨rfl, H2.out⟩

set_option maxRecDepth 100000 in
set_option maxHeartbeats 1500000 in
theorem after_some (w : World) (S : Nat → Prop) (g : Nat) (s : Sc) (c : Nat) (hs : ScAt w S g s) (hb : blankB c = false) (l : List Nat) (x : Nat) (h0 : s.open_ = l ++ [x]) :
    Calls Tryd.prog 67 #[.pointer (some ⟨g, 0, none⟩), .int .u8 c] w (ScPost w S g
      (if c = 44 then (if x = 91 then (sTo s jValue false, 0) else (sTo s jKeys false, 0)) else if (c = 93 ∧ x = 91) ∨ (c = 125 ∧ x = 123) then (sTo { s with open_ := l } jAfter true, 0) else (s, 3))) := by
  have HK := Lib.hid (blank_any c w)
  rw [hb] at HK
  have hmf := mk_f
  obtain ⟨b, off, cp, c1, ce, h1, h2, hcut⟩ := hs.some_ l x h0
  have HS := Lib.hid hs
  have HC := Lib.hid hcut
  have hM := hs.mem
  have f1 := hs.fz 1
  have HM := Lib.hid hM
  clear hs hb h0 hcut hM
  generalize l.length = m at *
  by_cases k1 : c = 44
  · subst k1
    rw [if_pos rfl]
    by_cases k2 : x = 91
    · subst k2
      rw [if_pos rfl]
      have HT := Lib.hid (to_any w S g s jValue false HS.out)
      unfold jValue at HT
      go_enter Tryd.func67, Tryd.ntmps67
      go_wp2_with fail
      refine HK.out.mono ?_
      rintro e w2 ⟨rfl, rfl⟩
      go_wp2_with fail
      refine HT.out.mono ?_
      rintro e w2 ⟨rfl, h2⟩
      have H2 := Lib.hid h2
      clear h2
      go_wp2_with fail
      go_ret
      exact ⟨rfl, H2.out⟩
    · rw [if_neg k2]
      have q2 : ((x : Int) == 91) = false := eqF (by omega)
      have HT := Lib.hid (to_any w S g s jKeys false HS.out)
      unfold jKeys at HT
      clear k2
      go_enter Tryd.func67, Tryd.ntmps67
      go_wp2_with fail
      refine HK.out.mono ?_
      rintro e w2 ⟨rfl, rfl⟩
      go_wp2_with fail
      refine HT.out.mono ?_
      rintro e w2 ⟨rfl, h2⟩
      have H2 := Lib.hid h2
      clear h2
      go_wp2_with fail
      go_ret
      exact ⟨rfl, H2.out⟩
  rw [if_neg k1]
  have q1 : ((c : Int) == 44) = false := eqF (by omega)
  by_cases hgo : (c = 93 ∧ x = 91) ∨ (c = 125 ∧ x = 123)
  · rw [if_pos hgo]
    have HT := Lib.hid (to_any _ S g _ jAfter true HC.out)
    unfold jAfter at HT
    clear k1
    rcases hgo with ⟨rfl, rfl⟩ | ⟨rfl, rfl⟩
    all_goals
      go_enter Tryd.func67, Tryd.ntmps67
      go_wp2_with fail
      refine HK.out.mono ?_
      rintro e w2 ⟨rfl, rfl⟩
      go_wp2_with fail
      refine HT.out.mono ?_
      rintro e w2 ⟨rfl, h2⟩
      have H2 := Lib.hid h2
      clear h2
      go_wp2_with fail
      go_ret
      exact ScPost.after ((Keeps.refl _ w).setCell (p := ⟨g, 1, none⟩) (.inl HM.out) _) (Fresh.refl _ _) ⟨rfl, H2.out⟩
  · rw [if_neg hgo]
    by_cases k2 : c = 93
    · subst k2
      have q2 : ((x : Int) == 91) = false := eqF (by omega)
      clear hgo k1
      go_enter Tryd.func67, Tryd.ntmps67
      go_wp2_with fail
      refine HK.out.mono ?_
      rintro e w2 ⟨rfl, rfl⟩
      go_wp2_with fail
      go_ret
      exact ScPost.stay HS.out 3
    by_cases k3 : c = 125
    · subst k3
      have q2 : ((x : Int) == 123) = false := eqF (by omega)
      clear hgo k1 k2
      go_enter Tryd.func67, Tryd.ntmps67
      go_wp2_with fail
      refine HK.out.mono ?_
      rintro e w2 ⟨rfl, rfl⟩
      go_wp2_with fail
      go_ret
      exact ScPost.stay HS.out 3
    have q2 : ((c : Int) == 93) = false := eqF (by omega)
    have q3 : ((c : Int) == 125) = false := eqF (by omega)
    clear hgo k1 k2 k3
    go_enter Tryd.func67, Tryd.ntmps67
    go_wp2_with fail
    refine HK.out.mono ?_
    rintro e w2 ⟨rfl, rfl⟩
    go_wp2_with fail
    go_ret
    exact ScPost.stay HS.out 3

theorem after_any (w : World) (S : Nat → Prop) (g : Nat) (s : Sc) (c : Nat) (hs : ScAt w S g s) :
    Calls Tryd.prog 67 #[.pointer (some ⟨g, 0, none⟩), .int .u8 c] w (ScPost w S g (pAfter s c)) := by
  unfold pAfter
  cases hb : blankB c
  · rw [if_neg (by simp)]
    rcases open_cases s.open_ with h0 | ⟨l, x, h0⟩
    · rw [if_pos h0]; exact after_none w S g s c hs hb h0
    · rw [if_neg (by rw [h0]; simp), top_of s l x 91 h0, top_of s l x 123 h0, shut_of s l x h0]
      simp only [beq_iff_eq]
      exact after_some w S g s c hs hb l x h0
  · rw [if_pos rfl]; exact after_blank w S g s c hs hb
end Go.Proofs.YtjfeebbhkolmoaaDoor
