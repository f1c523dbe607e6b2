/- crucibleref16's Scanner: sign at a comma, and whole. -/
import Derived.Test.YtjfeebbhkolmoaaDoorR16G
import Derived.Deep.RegionLaw
namespace Go.Proofs.YtjfeebbhkolmoaaDoor.R
open Go.RowKit
set_option linter.unusedVariables false

theorem not_empty (b : ByteArray) (h : 0 < b.size) : b.toList.isEmpty = false := by
  have e : b.toList = b.data.toList := ByteArray.toList_eq b
  rw [e]
  have hl : b.data.toList.length = b.size := by rw [Array.length_toList]; rfl
  cases hb : b.data.toList with
  | nil => rw [hb] at hl; simp at hl; omega
  | cons x l => rfl
set_option maxRecDepth 100000 in
theorem sign_comma0 (w : World) (S : Nat → Prop) (g : Nat) (s : St) (hm : s.o.mode = 5) (h0 : s.o.open_ = ⟨#[]⟩) (hs : StAt w S g s) :
    Calls Tryd.prog 77 #[.pointer (some ⟨g, 0, none⟩), .int .u8 44] w (NumPost w S g (s, 3)) := by
  have d1 : w.cell? ⟨g, 1, none⟩ = some (.int .i64 5) := by
    have := hs.cell 1 (.int .i64 (s.o.mode : Nat)) (fun _ => rfl)
    rw [hm] at this
    exact this
  have d2 : w.cell? ⟨g, 2, none⟩ = some (.string ⟨#[]⟩) := by
    have := hs.cell 2 (.string s.o.open_) (fun _ => rfl)
    rw [h0] at this
    exact this
  have HS := Lib.hid hs
  clear hs hm h0
  go_enter Tryd.func77, Tryd.ntmps77
  go_wp2_with fail
  go_ret
  exact ⟨rfl, StLeft.refl HS.out⟩
set_option maxRecDepth 100000 in
set_option maxHeartbeats 1500000 in
theorem sign_comma_list (w : World) (S : Nat → Prop) (g : Nat) (s : St) (hm : s.o.mode = 5) (hs : StAt w S g s) (k : Nat) (hk : s.o.open_.size = k + 1) (hk2 : k ≤ 1000) (hx : (s.o.open_[k]'(by omega)).toNat = 91) :
    Calls Tryd.prog 77 #[.pointer (some ⟨g, 0, none⟩), .int .u8 44] w (NumPost w S g (setM s 0, 0)) := by
  have d1 : w.cell? ⟨g, 1, none⟩ = some (.int .i64 5) := by
    have := hs.cell 1 (.int .i64 (s.o.mode : Nat)) (fun _ => rfl)
    rw [hm] at this
    exact this
  have f1 := hs.fz 1
  have d2 := hs.cell 2 (.string s.o.open_) (fun _ => rfl)
  have HS := Lib.hid hs
  have H1 := Lib.hid (hs.put 1 (.int .i64 0) (setM s 0) (fun _ => rfl) rfl)
  have hne := not_empty s.o.open_ (by omega)
  have e1 : (s.o.open_.size : Int) = (k : Int) + 1 := by omega
  have e3 : (k : Int) + 1 - 1 = (k : Int) := by omega
  have e4 : 0 ≤ (k : Int) := by omega
  have e5 : k < s.o.open_.size := by omega
  have e6 : IntKind.i64.wrap (k : Int) = (k : Int) := IntWalk.i64_in _ (by omega)
  have e8 : (k : Int) < (k : Int) + 1 := by omega
  clear hs hm
  go_enter Tryd.func77, Tryd.ntmps77
  go_upto_region 15 with fail
  have K1 : Hid (Keeps S w (w.setCell ⟨g, 1, none⟩ (.int .i64 0))) := Lib.hid ((Keeps.refl _ w).setCell (p := ⟨g, 1, none⟩) (.inl HS.out.mem) _)
  generalize w.setCell ⟨g, 1, none⟩ (.int .i64 0) = wq at *
  have c1 := H1.out.cell 1 (.int .i64 0) (fun _ => rfl)
  have c2 := H1.out.cell 2 (.string s.o.open_) (fun _ => rfl)
  have g1 := H1.out.fz 1
  clear d1 d2 f1
  go_region_law (fail)
  all_goals
    go_wp2_with fail
    go_ret
    exact ⟨rfl, S, H1.out.drewN 1, K1.out.drewN 1, Fresh.refl _ _⟩
set_option maxRecDepth 100000 in
set_option maxHeartbeats 1500000 in
theorem sign_comma_map (w : World) (S : Nat → Prop) (g : Nat) (s : St) (hm : s.o.mode = 5) (hs : StAt w S g s) (k : Nat) (hk : s.o.open_.size = k + 1) (hk2 : k ≤ 1000) (hx : (s.o.open_[k]'(by omega)).toNat = 123) :
    Calls Tryd.prog 77 #[.pointer (some ⟨g, 0, none⟩), .int .u8 44] w (NumPost w S g (setM s 3, 0)) := by
  have d1 : w.cell? ⟨g, 1, none⟩ = some (.int .i64 5) := by
    have := hs.cell 1 (.int .i64 (s.o.mode : Nat)) (fun _ => rfl)
    rw [hm] at this
    exact this
  have f1 := hs.fz 1
  have d2 := hs.cell 2 (.string s.o.open_) (fun _ => rfl)
  have HS := Lib.hid hs
  have H1 := Lib.hid (hs.put 1 (.int .i64 0) (setM s 0) (fun _ => rfl) rfl)
  have hne := not_empty s.o.open_ (by omega)
  have e1 : (s.o.open_.size : Int) = (k : Int) + 1 := by omega
  have e3 : (k : Int) + 1 - 1 = (k : Int) := by omega
  have e4 : 0 ≤ (k : Int) := by omega
  have e5 : k < s.o.open_.size := by omega
  have e6 : IntKind.i64.wrap (k : Int) = (k : Int) := IntWalk.i64_in _ (by omega)
  have e8 : (k : Int) < (k : Int) + 1 := by omega
  clear hs hm
  go_enter Tryd.func77, Tryd.ntmps77
  go_upto_region 15 with fail
  have K1 : Hid (Keeps S w (w.setCell ⟨g, 1, none⟩ (.int .i64 0))) := Lib.hid ((Keeps.refl _ w).setCell (p := ⟨g, 1, none⟩) (.inl HS.out.mem) _)
  generalize w.setCell ⟨g, 1, none⟩ (.int .i64 0) = wq at *
  have c1 := H1.out.cell 1 (.int .i64 0) (fun _ => rfl)
  have c2 := H1.out.cell 2 (.string s.o.open_) (fun _ => rfl)
  have g1 := H1.out.fz 1
  clear d1 d2 f1
  go_region_law (fail)
  all_goals
    go_wp2_with fail
    go_ret
    exact ⟨rfl, S, (H1.out.put 1 (.int .i64 3) (setM s 3) (fun _ => rfl) rfl).drewN 1, (K1.out.setCell (p := ⟨g, 1, none⟩) (.inl HS.out.mem) _).drewN 1, Fresh.refl _ _⟩
theorem sign_any (w : World) (S : Nat → Prop) (g : Nat) (s : St) (c : Nat) (hm : s.o.mode ≤ 5) (hi : InO s) (hs : StAt w S g s) :
    Calls Tryd.prog 77 #[.pointer (some ⟨g, 0, none⟩), .int .u8 c] w (NumPost w S g (pSign s c)) := by
  have h : s.o.mode = 0 ∨ s.o.mode = 1 ∨ s.o.mode = 2 ∨ s.o.mode = 3 ∨ s.o.mode = 4 ∨ s.o.mode = 5 := by omega
  rcases h with h | h | h | h | h | h
  · exact sign_0 w S g s c h hi hs
  · exact sign_1 w S g s c h hi hs
  · exact sign_2 w S g s c h hi hs
  · exact sign_3 w S g s c h hi hs
  · exact sign_4 w S g s c h hi hs
  by_cases h44 : c = 44
  · subst h44
    by_cases h0 : s.o.open_.size = 0
    · have HR : pSign s 44 = (s, 3) := by unfold pSign; rw [h, h0]; simp
      rw [HR]
      refine sign_comma0 w S g s h ?_ hs
      cases hb : s.o.open_ with
      | mk d =>
        rw [hb] at h0
        have : d = #[] := Array.eq_empty_of_size_eq_zero h0
        rw [this]
    obtain ⟨k, hk⟩ : ∃ k, s.o.open_.size = k + 1 := ⟨s.o.open_.size - 1, by omega⟩
    have hl : lastB s.o.open_ = (s.o.open_[k]'(by omega)).toNat := by
      unfold lastB
      rw [dif_pos (by omega)]
      congr 2
      omega
    have hk2 : k ≤ 1000 := by have := hi.1; omega
    rcases hi.2 (by omega) with hx | hx
    · have HR : pSign s 44 = (setM s 0, 0) := by unfold pSign; rw [if_neg (fun x => by have := x.2.1; omega), if_neg (fun x => by have := x.2; omega), if_pos ⟨h, rfl, by omega⟩, if_neg (by omega)]
      rw [HR]; exact sign_comma_list w S g s h hs k hk hk2 (hl.symm.trans hx)
    · have HR : pSign s 44 = (setM s 3, 0) := by unfold pSign; rw [if_neg (fun x => by have := x.2.1; omega), if_neg (fun x => by have := x.2; omega), if_pos ⟨h, rfl, by omega⟩, if_pos hx]
      rw [HR]; exact sign_comma_map w S g s h hs k hk hk2 (hl.symm.trans hx)
  · exact sign_5 w S g s c h hi hs h44
end Go.Proofs.YtjfeebbhkolmoaaDoor.R
