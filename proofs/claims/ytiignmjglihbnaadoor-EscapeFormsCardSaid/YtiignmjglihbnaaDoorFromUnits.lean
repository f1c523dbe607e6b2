/- Contract of utf.FromUnits at a pair of surrogates. -/
import Derived.Test.YtiignmjglihbnaaDoorPut
import Derived.Test.YtiignmjglihbnaaDoorRScan0
namespace Go.Proofs.YtiignmjglihbnaaDoor
open Go.RowKit
set_option linter.unusedVariables false

theorem below_of_grown {w w' : World} (h : w.grownBy w' none) : Below w.heap.size w w' := ⟨h.os, h.tape, h.output, h.size, fun k hk => h.block k hk (by simp)⟩
def TextPost (w : World) (n : Nat) (e : Ending) (w' : World) : Prop := e = .returned (.tuple #[.string (strOf (encN n)), .bool true]) ∧ Below w.heap.size w w'

def FURel (w : World) (H : Int) (R : Nat) (v4 v5 v12 : Value) (wr : World) : Prop :=
  (v4 = .slice none 0 0 ∧ v5 = .int .i32 0 ∧ v12 = .int .i64 0 ∧ wr = w) ∨ (v4 = .slice none 0 0 ∧ v5 = .int .i32 H ∧ v12 = .int .i64 1 ∧ wr = w) ∨ (v5 = .int .i32 0 ∧ v12 = .int .i64 2 ∧ ∃ A cp, v4 = .slice A (encN R).length cp ∧ wr.ownsRow w.heap.size 5 1 (.slice A (encN R).length cp) (encN R).length (vals .u8 (encN R)) ∧ Below w.heap.size w wr)

set_option maxRecDepth 100000 in
set_option maxHeartbeats 1500000 in
theorem fromUnits_pair (h lo R : Nat) (h1 : 55296 ≤ h) (h2 : h ≤ 56319) (l1 : 56320 ≤ lo) (l2 : lo ≤ 57343) (hR : R = 65536 + (h - 55296) * 1024 + lo - 56320) (g : Nat) (w : World) (hb : Blk w g 47 #[.int .u16 h, .int .u16 lo]) :
    Calls Tryd.prog 36 #[.slice (some ⟨g, 0, none⟩) 2 2] w (TextPost w R) := by
  have c0 := hb.cell 0
  have c1 := hb.cell 1
  have HB := Lib.hid hb
  have hRl : R < 1114112 := by omega
  have HP := Lib.hid (fun wx => put_any w.heap.size (.slice none 0 0) [] R hRl wx ⟨rfl, .inl ⟨rfl, rfl⟩⟩ (Nat.zero_le _))
  have HBY := Lib.hid (encN_byte R hRl)
  have p1 : ¬ (56320 ≤ (h : Int)) := by omega
  have p2 : 55296 ≤ (h : Int) := by omega
  have p3 : (h : Int) < 56320 := by omega
  have p4 : 0 < (h : Int) := by omega
  have p5 : 56320 ≤ (lo : Int) := by omega
  have p6 : (lo : Int) ≤ 57343 := by omega
  have A1 : Hid (wrap32 ((h : Int) - 55296) = (h : Int) - 55296) := Lib.hid (by unfold wrap32; omega)
  have A2 : Hid (wrap32 (((h : Int) - 55296) * 1024) = ((h : Int) - 55296) * 1024) := Lib.hid (by unfold wrap32; omega)
  have A3 : Hid (wrap32 (65536 + ((h : Int) - 55296) * 1024) = 65536 + ((h : Int) - 55296) * 1024) := Lib.hid (by unfold wrap32; omega)
  have A4 : Hid (wrap32 (65536 + ((h : Int) - 55296) * 1024 + (lo : Int)) = 65536 + ((h : Int) - 55296) * 1024 + lo) := Lib.hid (by unfold wrap32; omega)
  have A5 : Hid (wrap32 (65536 + ((h : Int) - 55296) * 1024 + (lo : Int) - 56320) = (R : Int)) := Lib.hid (by unfold wrap32; omega)
  have B1 : Hid (wrap32 (h : Int) = (h : Int)) := Lib.hid (by unfold wrap32; omega)
  have B2 : Hid (wrap32 (lo : Int) = (lo : Int)) := Lib.hid (by unfold wrap32; omega)
  have HRZ : Hid ((R : Int) = 65536 + ((h : Int) - 55296) * 1024 + (lo : Int) - 56320) := Lib.hid (by omega)
  clear hb h1 h2 l1 l2 hR hRl
  generalize (h : Int) = H at *
  generalize (lo : Int) = L at *
  have HPR : Hid (Calls Tryd.prog 49 #[.slice none 0 0, .int .i32 (65536 + (H - 55296) * 1024 + L - 56320)] w (PutPost w w.heap.size (.slice none 0 0) [] (encN R))) := Lib.hid (by
    have h := HP.out w (Nat.le_refl _)
    rw [HRZ.out] at h
    exact h)
  clear HP HRZ
  go_enter Tryd.func36, Tryd.ntmps36
  go_wp2_with fail
  go_loopw [2, 3, 4, 5, 12] (fun _ _ v4 v5 v12 wr => FURel w H R v4 v5 v12 wr) (fun _ _ _ _ v12 _ => 2 - (intOf v12).toNat)
  case atStart => exact .inl ⟨rfl, rfl, rfl, rfl⟩
  case round =>
    rcases hrel with ⟨rfl, rfl, rfl, rfl⟩ | ⟨rfl, rfl, rfl, rfl⟩ | ⟨rfl, rfl, A, cp, rfl, hown, hbel⟩
    · have b1 := B1.out
      clear p5 p6
      go_wp2_with fail
      go_roundw
      case rel => exact .inr (.inl ⟨rfl, rfl, rfl, rfl⟩)
      case measure => simp [intOf]
    · have a1 := A1.out
      have a2 := A2.out
      have a3 := A3.out
      have a4 := A4.out
      have a5 := A5.out
      have b2 := B2.out
      go_wp2_with fail
      refine HPR.out.mono ?_
      rintro e w2 ⟨v', rfl, hown, hgr⟩
      obtain ⟨A2, k2, rfl, -, -, -, -⟩ := own_rd hown
      have HOWN := Lib.hid hown
      have HG := Lib.hid (below_of_grown hgr)
      clear hown hgr
      go_wp2_with fail
      go_roundw
      case rel => exact .inr (.inr ⟨rfl, rfl, A2, k2, rfl, HOWN.out, HG.out⟩)
      case measure => simp [intOf]
    · have HCV := row_string_any HBY.out rfl hown
      have HBEL := Lib.hid hbel
      clear hown hbel
      go_wp2_with fail
      go_ret2
      exact ⟨rfl, HBEL.out⟩
end Go.Proofs.YtiignmjglihbnaaDoor
