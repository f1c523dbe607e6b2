/- Contracts of fault.New at the scanner's numbers; of New, Close, Len, Depth; what an error tells. -/
import Derived.Test.YtjfeebbhkolmoaaDoorJs8
import Derived.Test.YtjfeebbhkolmoaaDoorJErrs
namespace Go.Proofs.YtjfeebbhkolmoaaDoor
open Go.RowKit
set_option linter.unusedVariables false

/-- an error by its number and place: 0: none; made from block lo on -/
def ErrAt (w : World) (a : Nat → Addr) (lo : Nat) (v : Value) (code : Nat) (n : Int) : Prop :=
  (code = 0 ∧ v = .nilIface) ∨ (code ≠ 0 ∧ ∃ gf, lo ≤ gf ∧ v = .iface 75 (.pointer (some ⟨gf, 0, none⟩)) ∧ FaultB w gf (a (code - 1)) n)
theorem ErrAt.mono {w : World} {a : Nat → Addr} {lo lo' : Nat} {v : Value} {code : Nat} {n : Int} (h : ErrAt w a lo v code n) (hl : lo' ≤ lo) : ErrAt w a lo' v code n := by
  rcases h with h | ⟨h1, gf, h2, h3⟩
  · exact .inl h
  · exact .inr ⟨h1, gf, by omega, h3⟩
theorem ErrAt.below {w w' : World} {a : Nat → Addr} {lo : Nat} {v : Value} {code : Nat} {n : Int} (h : ErrAt w a lo v code n) (hb : Below w.heap.size w w') : ErrAt w' a lo v code n := by
  rcases h with h | ⟨h1, gf, h2, h3, h4⟩
  · exact .inl h
  · exact .inr ⟨h1, gf, h2, h3, Blk.below h4 hb (Blk.lt h4)⟩
theorem ErrAt.keeps {w w' : World} {S : Nat → Prop} {a : Nat → Addr} {lo : Nat} {v : Value} {code : Nat} {n : Int} (h : ErrAt w a lo v code n) (hk : Keeps S w w') (hS : ∀ i, S i → i < lo) : ErrAt w' a lo v code n := by
  rcases h with h | ⟨h1, gf, h2, h3, h4⟩
  · exact .inl h
  · exact .inr ⟨h1, gf, h2, h3, hk.blk h4 (fun hs => by have := hS gf hs; omega)⟩
theorem Errs.keeps {w w' : World} {S : Nat → Prop} {a : Nat → Addr} (h : Errs w a) (hk : Keeps S w w') (hS : ∀ i, S i → 12 < i ∧ ∀ k, k < 11 → i ≠ (a k).block) : Errs w' a where
  typ := by
    have hb := hk.block 12 h.low (fun hs => by have := (hS 12 hs).1; omega)
    exact (World.cell?_of_block (a := ⟨12, 0, none⟩) hb).trans h.typ
  sen k hk2 := by
    have hl := gS_le k hk2
    have hb := hk.block (gS k) (by have := h.low; omega) (fun hs => by have := (hS _ hs).1; omega)
    exact (World.cell?_of_block (a := ⟨gS k, 0, none⟩) hb).trans (h.sen k hk2)
  blk k hk2 := by
    obtain ⟨c, t, e⟩ := h.blk k hk2
    exact ⟨c, t, (hk.block _ (Array.getElem?_eq_some_iff.1 e).1 (fun hs => (hS _ hs).2 k hk2 rfl)).trans e⟩
  ne := h.ne

set_option maxRecDepth 100000 in
theorem sentinel_0 (w : World) (a : Nat → Addr) (he : Errs w a) :
    Calls Tryd.prog 56 #[.int .i64 0] w fun e w' => e = .returned .nilIface ∧ Below w.heap.size w w' := by
  have s0 : w.cell? ⟨2, 0, none⟩ = _ := he.sen 0 (by decide)
  have s1 : w.cell? ⟨0, 0, none⟩ = _ := he.sen 1 (by decide)
  have s2 : w.cell? ⟨3, 0, none⟩ = _ := he.sen 2 (by decide)
  have s3 : w.cell? ⟨4, 0, none⟩ = _ := he.sen 3 (by decide)
  have s4 : w.cell? ⟨5, 0, none⟩ = _ := he.sen 4 (by decide)
  have s5 : w.cell? ⟨6, 0, none⟩ = _ := he.sen 5 (by decide)
  have s6 : w.cell? ⟨7, 0, none⟩ = _ := he.sen 6 (by decide)
  have s7 : w.cell? ⟨8, 0, none⟩ = _ := he.sen 7 (by decide)
  have s8 : w.cell? ⟨9, 0, none⟩ = _ := he.sen 8 (by decide)
  have s9 : w.cell? ⟨10, 0, none⟩ = _ := he.sen 9 (by decide)
  have s10 : w.cell? ⟨11, 0, none⟩ = _ := he.sen 10 (by decide)
  clear he
  go_enter Tryd.func56, Tryd.ntmps56
  go_wp2_with fail
  go_ret
  exact ⟨rfl, (Below.refl _ _).alloc (Nat.le_refl _) _⟩

set_option maxRecDepth 100000 in
theorem sentinel_3 (w : World) (a : Nat → Addr) (he : Errs w a) :
    Calls Tryd.prog 56 #[.int .i64 3] w fun e w' => e = .returned (.iface 142 (.pointer (some (a 2)))) ∧ Below w.heap.size w w' := by
  have s0 : w.cell? ⟨2, 0, none⟩ = _ := he.sen 0 (by decide)
  have s1 : w.cell? ⟨0, 0, none⟩ = _ := he.sen 1 (by decide)
  have s2 : w.cell? ⟨3, 0, none⟩ = _ := he.sen 2 (by decide)
  have s3 : w.cell? ⟨4, 0, none⟩ = _ := he.sen 3 (by decide)
  have s4 : w.cell? ⟨5, 0, none⟩ = _ := he.sen 4 (by decide)
  have s5 : w.cell? ⟨6, 0, none⟩ = _ := he.sen 5 (by decide)
  have s6 : w.cell? ⟨7, 0, none⟩ = _ := he.sen 6 (by decide)
  have s7 : w.cell? ⟨8, 0, none⟩ = _ := he.sen 7 (by decide)
  have s8 : w.cell? ⟨9, 0, none⟩ = _ := he.sen 8 (by decide)
  have s9 : w.cell? ⟨10, 0, none⟩ = _ := he.sen 9 (by decide)
  have s10 : w.cell? ⟨11, 0, none⟩ = _ := he.sen 10 (by decide)
  clear he
  go_enter Tryd.func56, Tryd.ntmps56
  go_wp2_with fail
  go_ret
  exact ⟨rfl, (Below.refl _ _).alloc (Nat.le_refl _) _⟩

set_option maxRecDepth 100000 in
theorem sentinel_5 (w : World) (a : Nat → Addr) (he : Errs w a) :
    Calls Tryd.prog 56 #[.int .i64 5] w fun e w' => e = .returned (.iface 142 (.pointer (some (a 4)))) ∧ Below w.heap.size w w' := by
  have s0 : w.cell? ⟨2, 0, none⟩ = _ := he.sen 0 (by decide)
  have s1 : w.cell? ⟨0, 0, none⟩ = _ := he.sen 1 (by decide)
  have s2 : w.cell? ⟨3, 0, none⟩ = _ := he.sen 2 (by decide)
  have s3 : w.cell? ⟨4, 0, none⟩ = _ := he.sen 3 (by decide)
  have s4 : w.cell? ⟨5, 0, none⟩ = _ := he.sen 4 (by decide)
  have s5 : w.cell? ⟨6, 0, none⟩ = _ := he.sen 5 (by decide)
  have s6 : w.cell? ⟨7, 0, none⟩ = _ := he.sen 6 (by decide)
  have s7 : w.cell? ⟨8, 0, none⟩ = _ := he.sen 7 (by decide)
  have s8 : w.cell? ⟨9, 0, none⟩ = _ := he.sen 8 (by decide)
  have s9 : w.cell? ⟨10, 0, none⟩ = _ := he.sen 9 (by decide)
  have s10 : w.cell? ⟨11, 0, none⟩ = _ := he.sen 10 (by decide)
  clear he
  go_enter Tryd.func56, Tryd.ntmps56
  go_wp2_with fail
  go_ret
  exact ⟨rfl, (Below.refl _ _).alloc (Nat.le_refl _) _⟩

/-- the numbers that a Scanner tells -/
def okCode (c : Nat) : Prop := c = 0 ∨ c = 3 ∨ c = 5
def NewPost (w : World) (a : Nat → Addr) (c : Nat) (n : Int) (e : Ending) (w' : World) : Prop := ∃ v, e = .returned v ∧ ErrAt w' a w.heap.size v c n ∧ Below w.heap.size w w'

set_option maxRecDepth 100000 in
theorem fault_new (w : World) (a : Nat → Addr) (he : Errs w a) (c : Nat) (hc : okCode c) (n : Int) :
    Calls Tryd.prog 34 #[.int .i64 (c : Nat), .int .i64 n, .string ⟨#[]⟩] w (NewPost w a c n) := by
  have H0 := Lib.hid (sentinel_0 w a he)
  have H3 := Lib.hid (sentinel_3 w a he)
  have H5 := Lib.hid (sentinel_5 w a he)
  clear he
  rcases hc with rfl | rfl | rfl
  · go_enter Tryd.func34, Tryd.ntmps34
    go_wp2_with fail
    refine H0.out.mono ?_
    rintro e w1 ⟨rfl, hb⟩
    have HB := Lib.hid hb
    clear hb
    go_wp2_with fail
    go_ret
    exact ⟨_, rfl, .inl ⟨rfl, rfl⟩, HB.out⟩
  · go_enter Tryd.func34, Tryd.ntmps34
    go_wp2_with fail
    refine H3.out.mono ?_
    rintro e w1 ⟨rfl, hb⟩
    have HB := Lib.hid hb
    clear hb
    go_wp2_with fail
    go_ret
    exact ⟨_, rfl, .inr ⟨by decide, w1.heap.size, HB.out.size, rfl, Blk.new _ _ _⟩, HB.out.alloc HB.out.size _⟩
  · go_enter Tryd.func34, Tryd.ntmps34
    go_wp2_with fail
    refine H5.out.mono ?_
    rintro e w1 ⟨rfl, hb⟩
    have HB := Lib.hid hb
    clear hb
    go_wp2_with fail
    go_ret
    exact ⟨_, rfl, .inr ⟨by decide, w1.heap.size, HB.out.size, rfl, Blk.new _ _ _⟩, HB.out.alloc HB.out.size _⟩

/-- a Scanner that has seen nothing -/
def Sc0 : Sc := { k := jValue, open_ := [], done := false, size := 0, bad := 0, rest := ⟨#[]⟩, key := false, left := 0, low := 0, high := 0, unit := 0, pair := false }
theorem Sc0_in : InJ Sc0 := ⟨by decide, by decide, fun h => absurd h (by decide), fun h => absurd h (by decide), fun h => absurd h (by decide)⟩
def S1 (g : Nat) : Nat → Prop := fun i => i = g ∨ (Value.slice none 0 0).ownBlock = some i

set_option maxRecDepth 100000 in
theorem new_any (w : World) :
    Calls Tryd.prog 11 #[] w fun e w' => e = .returned (.pointer (some ⟨w.heap.size, 0, none⟩)) ∧ ScAt w' (S1 w.heap.size) w.heap.size Sc0 ∧ Below w.heap.size w w' := by
  have hmf := mk_f
  go_enter Tryd.func11, Tryd.ntmps11
  go_wp2_with fail
  go_ret
  refine ⟨rfl, ?_, ?_⟩
  · exact ⟨.slice none 0 0, Blk.new _ _ _, World.ownsRow_nil _ _ _ _, rfl⟩
  · exact (Below.refl _ _).alloc (Nat.le_refl _) _
end Go.Proofs.YtjfeebbhkolmoaaDoor
