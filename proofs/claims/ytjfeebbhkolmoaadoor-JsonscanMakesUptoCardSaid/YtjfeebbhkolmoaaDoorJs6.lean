/- Contract of (*jsonscan.Scanner).text. -/
import Derived.Test.YtjfeebbhkolmoaaDoorJs5
namespace Go.Proofs.YtjfeebbhkolmoaaDoor
open Go.RowKit
set_option linter.unusedVariables false

set_option maxRecDepth 100000 in
set_option maxHeartbeats 1500000 in
theorem text_end_key (w : World) (S : Nat → Prop) (g : Nat) (s : Sc) (hk : s.key = true) (hs : ScAt w S g s) :
    Calls Tryd.prog 47 #[.pointer (some ⟨g, 0, none⟩), .int .u8 34] w (ScPost w S g (sTo s jColon false, 0)) := by
  have hmf := mk_f
  have d6 := hs.cell 6 (.bool s.key) (fun _ => rfl)
  rw [hk] at d6
  have HS := Lib.hid hs
  have HM := Lib.hid hs.mem
  have HT := Lib.hid (to_any _ S g s jColon false HS.out)
  unfold jColon at HT
  clear hs hk
  go_enter Tryd.func47, Tryd.ntmps47
  go_wp2_with fail
  refine HT.out.mono ?_
  rintro e w2 ⟨rfl, h2⟩
  have H2 := Lib.hid h2
  clear h2
  go_wp2_with fail
  go_ret
  exact ⟨rfl, H2.out⟩

set_option maxRecDepth 100000 in
set_option maxHeartbeats 1500000 in
theorem text_end (w : World) (S : Nat → Prop) (g : Nat) (s : Sc) (hk : s.key = false) (hs : ScAt w S g s) :
    Calls Tryd.prog 47 #[.pointer (some ⟨g, 0, none⟩), .int .u8 34] w (ScPost w S g (sTo s jAfter true, 0)) := by
  have hmf := mk_f
  have d6 := hs.cell 6 (.bool s.key) (fun _ => rfl)
  rw [hk] at d6
  have HS := Lib.hid hs
  have HM := Lib.hid hs.mem
  have HT := Lib.hid (to_any _ S g s jAfter true HS.out)
  unfold jAfter at HT
  clear hs hk
  go_enter Tryd.func47, Tryd.ntmps47
  go_wp2_with fail
  refine HT.out.mono ?_
  rintro e w2 ⟨rfl, h2⟩
  have H2 := Lib.hid h2
  clear h2
  go_wp2_with fail
  go_ret
  exact ⟨rfl, H2.out⟩

set_option maxRecDepth 100000 in
set_option maxHeartbeats 1500000 in
theorem text_stroke (w : World) (S : Nat → Prop) (g : Nat) (s : Sc) (hs : ScAt w S g s) :
    Calls Tryd.prog 47 #[.pointer (some ⟨g, 0, none⟩), .int .u8 92] w (ScPost w S g (sTo s jStroke false, 0)) := by
  have hmf := mk_f
  have HS := Lib.hid hs
  have HM := Lib.hid hs.mem
  have HT := Lib.hid (to_any _ S g s jStroke false HS.out)
  unfold jStroke at HT
  clear hs 
  go_enter Tryd.func47, Tryd.ntmps47
  go_wp2_with fail
  refine HT.out.mono ?_
  rintro e w2 ⟨rfl, h2⟩
  have H2 := Lib.hid h2
  clear h2
  go_wp2_with fail
  go_ret
  exact ⟨rfl, H2.out⟩

set_option maxRecDepth 100000 in
set_option maxHeartbeats 1500000 in
theorem text_low (w : World) (S : Nat → Prop) (g : Nat) (s : Sc) (c : Nat) (h : c < 32) (hs : ScAt w S g s) :
    Calls Tryd.prog 47 #[.pointer (some ⟨g, 0, none⟩), .int .u8 c] w (ScPost w S g (s, 3)) := by
  have hmf := mk_f
  have q34 : ((c : Int) == 34) = false := eqF (by omega)
  have q92 : ((c : Int) == 92) = false := eqF (by omega)
  have t1 : (c : Int) < 32 := by omega
  have HS := Lib.hid hs
  have HM := Lib.hid hs.mem
  clear hs h
  go_enter Tryd.func47, Tryd.ntmps47
  go_wp2_with fail
  go_ret
  exact ScPost.stay HS.out 3

set_option maxRecDepth 100000 in
set_option maxHeartbeats 1500000 in
theorem text_ascii (w : World) (S : Nat → Prop) (g : Nat) (s : Sc) (c : Nat) (h : 32 ≤ c) (h2 : c < 128) (h34 : c ≠ 34) (h92 : c ≠ 92) (hs : ScAt w S g s) :
    Calls Tryd.prog 47 #[.pointer (some ⟨g, 0, none⟩), .int .u8 c] w (ScPost w S g (s, 0)) := by
  have hmf := mk_f
  have q34 : ((c : Int) == 34) = false := eqF (by omega)
  have q92 : ((c : Int) == 92) = false := eqF (by omega)
  have t1 : 32 ≤ (c : Int) := by omega
  have t2 : (c : Int) < 128 := by omega
  have HS := Lib.hid hs
  have HM := Lib.hid hs.mem
  clear hs h h2 h34 h92
  go_enter Tryd.func47, Tryd.ntmps47
  go_wp2_with fail
  go_ret
  exact ScPost.stay HS.out 0

set_option maxRecDepth 100000 in
set_option maxHeartbeats 3000000 in
theorem text_128 (w : World) (S : Nat → Prop) (g : Nat) (s : Sc) (c : Nat) (h : 128 ≤ c) (h2 : c ≤ 193) (hs : ScAt w S g s) :
    Calls Tryd.prog 47 #[.pointer (some ⟨g, 0, none⟩), .int .u8 c] w (ScPost w S g (sBytes s s.left 128 191, 3)) := by
  have hmf := mk_f
  have HM := Lib.hid hs.mem
  have d7 := hs.cell 7 (.int .i64 (s.left : Nat)) (fun _ => rfl)
  have d8 := hs.cell 8 (.int .u8 (s.low : Nat)) (fun _ => rfl)
  have d9 := hs.cell 9 (.int .u8 (s.high : Nat)) (fun _ => rfl)
  have f7 := hs.fz 7
  have f8 := hs.fz 8
  have f9 := hs.fz 9
  have HS2 : Hid (ScAt _ S g (sBytes s s.left 128 191)) := Lib.hid (ScAt.store (ScAt.store hs 8 (.int .u8 128) ({ s with low := 128 }) (fun _ => rfl) rfl) 9 (.int .u8 191) ({ s with low := 128, high := 191 }) (fun _ => rfl) rfl)
  have q34 : ((c : Int) == 34) = false := eqF (by omega)
  have q92 : ((c : Int) == 92) = false := eqF (by omega)
  have t32 : 32 ≤ (c : Int) := by omega
  have t128 : 128 ≤ (c : Int) := by omega
  have t194 : (c : Int) < 194 := by omega
  have t224 : (c : Int) < 224 := by omega
  have t240 : (c : Int) < 240 := by omega
  have t245 : (c : Int) < 245 := by omega
  clear hs h h2
  go_enter Tryd.func47, Tryd.ntmps47
  go_wp2_with fail
  go_ret
  exact ⟨rfl, S, HS2.out, ((Keeps.refl _ w).setCell (p := ⟨g, 8, none⟩) (.inl HM.out) _).setCell (p := ⟨g, 9, none⟩) (.inl HM.out) _, Fresh.refl _ _⟩

set_option maxRecDepth 100000 in
set_option maxHeartbeats 3000000 in
theorem text_245 (w : World) (S : Nat → Prop) (g : Nat) (s : Sc) (c : Nat) (h : 245 ≤ c) (h2 : c ≤ 255) (hs : ScAt w S g s) :
    Calls Tryd.prog 47 #[.pointer (some ⟨g, 0, none⟩), .int .u8 c] w (ScPost w S g (sBytes s s.left 128 191, 3)) := by
  have hmf := mk_f
  have HM := Lib.hid hs.mem
  have d7 := hs.cell 7 (.int .i64 (s.left : Nat)) (fun _ => rfl)
  have d8 := hs.cell 8 (.int .u8 (s.low : Nat)) (fun _ => rfl)
  have d9 := hs.cell 9 (.int .u8 (s.high : Nat)) (fun _ => rfl)
  have f7 := hs.fz 7
  have f8 := hs.fz 8
  have f9 := hs.fz 9
  have HS2 : Hid (ScAt _ S g (sBytes s s.left 128 191)) := Lib.hid (ScAt.store (ScAt.store hs 8 (.int .u8 128) ({ s with low := 128 }) (fun _ => rfl) rfl) 9 (.int .u8 191) ({ s with low := 128, high := 191 }) (fun _ => rfl) rfl)
  have q34 : ((c : Int) == 34) = false := eqF (by omega)
  have q92 : ((c : Int) == 92) = false := eqF (by omega)
  have t32 : 32 ≤ (c : Int) := by omega
  have t128 : 128 ≤ (c : Int) := by omega
  have t194 : 194 ≤ (c : Int) := by omega
  have t224 : 224 ≤ (c : Int) := by omega
  have t240 : 240 ≤ (c : Int) := by omega
  have t245 : 245 ≤ (c : Int) := by omega
  clear hs h h2
  go_enter Tryd.func47, Tryd.ntmps47
  go_wp2_with fail
  go_ret
  exact ⟨rfl, S, HS2.out, ((Keeps.refl _ w).setCell (p := ⟨g, 8, none⟩) (.inl HM.out) _).setCell (p := ⟨g, 9, none⟩) (.inl HM.out) _, Fresh.refl _ _⟩

set_option maxRecDepth 100000 in
set_option maxHeartbeats 3000000 in
theorem text_194 (w : World) (S : Nat → Prop) (g : Nat) (s : Sc) (c : Nat) (h : 194 ≤ c) (h2 : c ≤ 223) (hs : ScAt w S g s) :
    Calls Tryd.prog 47 #[.pointer (some ⟨g, 0, none⟩), .int .u8 c] w (ScPost w S g (sTo (sBytes s 1 128 191) jFollow false, 0)) := by
  have hmf := mk_f
  have HM := Lib.hid hs.mem
  have d7 := hs.cell 7 (.int .i64 (s.left : Nat)) (fun _ => rfl)
  have d8 := hs.cell 8 (.int .u8 (s.low : Nat)) (fun _ => rfl)
  have d9 := hs.cell 9 (.int .u8 (s.high : Nat)) (fun _ => rfl)
  have f7 := hs.fz 7
  have f8 := hs.fz 8
  have f9 := hs.fz 9
  have HS2 : Hid (ScAt _ S g (sBytes s 1 128 191)) := Lib.hid (ScAt.store (ScAt.store (ScAt.store hs 8 (.int .u8 128) ({ s with low := 128 }) (fun _ => rfl) rfl) 9 (.int .u8 191) ({ s with low := 128, high := 191 }) (fun _ => rfl) rfl) 7 (.int .i64 1) (sBytes s 1 128 191) (fun _ => rfl) rfl)
  have HT := Lib.hid (to_any _ S g _ jFollow false HS2.out)
  unfold jFollow at HT
  have q34 : ((c : Int) == 34) = false := eqF (by omega)
  have q92 : ((c : Int) == 92) = false := eqF (by omega)
  have q224 : ((c : Int) == 224) = false := eqF (by omega)
  have q240 : ((c : Int) == 240) = false := eqF (by omega)
  have q237 : ((c : Int) == 237) = false := eqF (by omega)
  have q244 : ((c : Int) == 244) = false := eqF (by omega)
  have t32 : 32 ≤ (c : Int) := by omega
  have t128 : 128 ≤ (c : Int) := by omega
  have t194 : 194 ≤ (c : Int) := by omega
  have t224 : (c : Int) < 224 := by omega
  have t240 : (c : Int) < 240 := by omega
  have t245 : (c : Int) < 245 := by omega
  clear hs h h2
  go_enter Tryd.func47, Tryd.ntmps47
  go_wp2_with fail
  refine HT.out.mono ?_
  rintro e w2 ⟨rfl, h2⟩
  have H2 := Lib.hid h2
  clear h2
  go_wp2_with fail
  go_ret
  exact ScPost.after ((((Keeps.refl _ w).setCell (p := ⟨g, 8, none⟩) (.inl HM.out) _).setCell (p := ⟨g, 9, none⟩) (.inl HM.out) _).setCell (p := ⟨g, 7, none⟩) (.inl HM.out) _) (Fresh.refl _ _) ⟨rfl, H2.out⟩

set_option maxRecDepth 100000 in
set_option maxHeartbeats 3000000 in
theorem text_225 (w : World) (S : Nat → Prop) (g : Nat) (s : Sc) (c : Nat) (h : 225 ≤ c) (h2 : c ≤ 236) (hs : ScAt w S g s) :
    Calls Tryd.prog 47 #[.pointer (some ⟨g, 0, none⟩), .int .u8 c] w (ScPost w S g (sTo (sBytes s 2 128 191) jFollow false, 0)) := by
  have hmf := mk_f
  have HM := Lib.hid hs.mem
  have d7 := hs.cell 7 (.int .i64 (s.left : Nat)) (fun _ => rfl)
  have d8 := hs.cell 8 (.int .u8 (s.low : Nat)) (fun _ => rfl)
  have d9 := hs.cell 9 (.int .u8 (s.high : Nat)) (fun _ => rfl)
  have f7 := hs.fz 7
  have f8 := hs.fz 8
  have f9 := hs.fz 9
  have HS2 : Hid (ScAt _ S g (sBytes s 2 128 191)) := Lib.hid (ScAt.store (ScAt.store (ScAt.store hs 8 (.int .u8 128) ({ s with low := 128 }) (fun _ => rfl) rfl) 9 (.int .u8 191) ({ s with low := 128, high := 191 }) (fun _ => rfl) rfl) 7 (.int .i64 2) (sBytes s 2 128 191) (fun _ => rfl) rfl)
  have HT := Lib.hid (to_any _ S g _ jFollow false HS2.out)
  unfold jFollow at HT
  have q34 : ((c : Int) == 34) = false := eqF (by omega)
  have q92 : ((c : Int) == 92) = false := eqF (by omega)
  have q224 : ((c : Int) == 224) = false := eqF (by omega)
  have q240 : ((c : Int) == 240) = false := eqF (by omega)
  have q237 : ((c : Int) == 237) = false := eqF (by omega)
  have q244 : ((c : Int) == 244) = false := eqF (by omega)
  have t32 : 32 ≤ (c : Int) := by omega
  have t128 : 128 ≤ (c : Int) := by omega
  have t194 : 194 ≤ (c : Int) := by omega
  have t224 : 224 ≤ (c : Int) := by omega
  have t240 : (c : Int) < 240 := by omega
  have t245 : (c : Int) < 245 := by omega
  clear hs h h2
  go_enter Tryd.func47, Tryd.ntmps47
  go_wp2_with fail
  refine HT.out.mono ?_
  rintro e w2 ⟨rfl, h2⟩
  have H2 := Lib.hid h2
  clear h2
  go_wp2_with fail
  go_ret
  exact ScPost.after ((((Keeps.refl _ w).setCell (p := ⟨g, 8, none⟩) (.inl HM.out) _).setCell (p := ⟨g, 9, none⟩) (.inl HM.out) _).setCell (p := ⟨g, 7, none⟩) (.inl HM.out) _) (Fresh.refl _ _) ⟨rfl, H2.out⟩

set_option maxRecDepth 100000 in
set_option maxHeartbeats 3000000 in
theorem text_238 (w : World) (S : Nat → Prop) (g : Nat) (s : Sc) (c : Nat) (h : 238 ≤ c) (h2 : c ≤ 239) (hs : ScAt w S g s) :
    Calls Tryd.prog 47 #[.pointer (some ⟨g, 0, none⟩), .int .u8 c] w (ScPost w S g (sTo (sBytes s 2 128 191) jFollow false, 0)) := by
  have hmf := mk_f
  have HM := Lib.hid hs.mem
  have d7 := hs.cell 7 (.int .i64 (s.left : Nat)) (fun _ => rfl)
  have d8 := hs.cell 8 (.int .u8 (s.low : Nat)) (fun _ => rfl)
  have d9 := hs.cell 9 (.int .u8 (s.high : Nat)) (fun _ => rfl)
  have f7 := hs.fz 7
  have f8 := hs.fz 8
  have f9 := hs.fz 9
  have HS2 : Hid (ScAt _ S g (sBytes s 2 128 191)) := Lib.hid (ScAt.store (ScAt.store (ScAt.store hs 8 (.int .u8 128) ({ s with low := 128 }) (fun _ => rfl) rfl) 9 (.int .u8 191) ({ s with low := 128, high := 191 }) (fun _ => rfl) rfl) 7 (.int .i64 2) (sBytes s 2 128 191) (fun _ => rfl) rfl)
  have HT := Lib.hid (to_any _ S g _ jFollow false HS2.out)
  unfold jFollow at HT
  have q34 : ((c : Int) == 34) = false := eqF (by omega)
  have q92 : ((c : Int) == 92) = false := eqF (by omega)
  have q224 : ((c : Int) == 224) = false := eqF (by omega)
  have q240 : ((c : Int) == 240) = false := eqF (by omega)
  have q237 : ((c : Int) == 237) = false := eqF (by omega)
  have q244 : ((c : Int) == 244) = false := eqF (by omega)
  have t32 : 32 ≤ (c : Int) := by omega
  have t128 : 128 ≤ (c : Int) := by omega
  have t194 : 194 ≤ (c : Int) := by omega
  have t224 : 224 ≤ (c : Int) := by omega
  have t240 : (c : Int) < 240 := by omega
  have t245 : (c : Int) < 245 := by omega
  clear hs h h2
  go_enter Tryd.func47, Tryd.ntmps47
  go_wp2_with fail
  refine HT.out.mono ?_
  rintro e w2 ⟨rfl, h2⟩
  have H2 := Lib.hid h2
  clear h2
  go_wp2_with fail
  go_ret
  exact ScPost.after ((((Keeps.refl _ w).setCell (p := ⟨g, 8, none⟩) (.inl HM.out) _).setCell (p := ⟨g, 9, none⟩) (.inl HM.out) _).setCell (p := ⟨g, 7, none⟩) (.inl HM.out) _) (Fresh.refl _ _) ⟨rfl, H2.out⟩

set_option maxRecDepth 100000 in
set_option maxHeartbeats 3000000 in
theorem text_241 (w : World) (S : Nat → Prop) (g : Nat) (s : Sc) (c : Nat) (h : 241 ≤ c) (h2 : c ≤ 243) (hs : ScAt w S g s) :
    Calls Tryd.prog 47 #[.pointer (some ⟨g, 0, none⟩), .int .u8 c] w (ScPost w S g (sTo (sBytes s 3 128 191) jFollow false, 0)) := by
  have hmf := mk_f
  have HM := Lib.hid hs.mem
  have d7 := hs.cell 7 (.int .i64 (s.left : Nat)) (fun _ => rfl)
  have d8 := hs.cell 8 (.int .u8 (s.low : Nat)) (fun _ => rfl)
  have d9 := hs.cell 9 (.int .u8 (s.high : Nat)) (fun _ => rfl)
  have f7 := hs.fz 7
  have f8 := hs.fz 8
  have f9 := hs.fz 9
  have HS2 : Hid (ScAt _ S g (sBytes s 3 128 191)) := Lib.hid (ScAt.store (ScAt.store (ScAt.store hs 8 (.int .u8 128) ({ s with low := 128 }) (fun _ => rfl) rfl) 9 (.int .u8 191) ({ s with low := 128, high := 191 }) (fun _ => rfl) rfl) 7 (.int .i64 3) (sBytes s 3 128 191) (fun _ => rfl) rfl)
  have HT := Lib.hid (to_any _ S g _ jFollow false HS2.out)
  unfold jFollow at HT
  have q34 : ((c : Int) == 34) = false := eqF (by omega)
  have q92 : ((c : Int) == 92) = false := eqF (by omega)
  have q224 : ((c : Int) == 224) = false := eqF (by omega)
  have q240 : ((c : Int) == 240) = false := eqF (by omega)
  have q237 : ((c : Int) == 237) = false := eqF (by omega)
  have q244 : ((c : Int) == 244) = false := eqF (by omega)
  have t32 : 32 ≤ (c : Int) := by omega
  have t128 : 128 ≤ (c : Int) := by omega
  have t194 : 194 ≤ (c : Int) := by omega
  have t224 : 224 ≤ (c : Int) := by omega
  have t240 : 240 ≤ (c : Int) := by omega
  have t245 : (c : Int) < 245 := by omega
  clear hs h h2
  go_enter Tryd.func47, Tryd.ntmps47
  go_wp2_with fail
  refine HT.out.mono ?_
  rintro e w2 ⟨rfl, h2⟩
  have H2 := Lib.hid h2
  clear h2
  go_wp2_with fail
  go_ret
  exact ScPost.after ((((Keeps.refl _ w).setCell (p := ⟨g, 8, none⟩) (.inl HM.out) _).setCell (p := ⟨g, 9, none⟩) (.inl HM.out) _).setCell (p := ⟨g, 7, none⟩) (.inl HM.out) _) (Fresh.refl _ _) ⟨rfl, H2.out⟩

set_option maxRecDepth 100000 in
set_option maxHeartbeats 3000000 in
theorem text_224 (w : World) (S : Nat → Prop) (g : Nat) (s : Sc) (hs : ScAt w S g s) :
    Calls Tryd.prog 47 #[.pointer (some ⟨g, 0, none⟩), .int .u8 224] w (ScPost w S g (sTo (sBytes s 2 160 191) jFollow false, 0)) := by
  have hmf := mk_f
  have HM := Lib.hid hs.mem
  have d7 := hs.cell 7 (.int .i64 (s.left : Nat)) (fun _ => rfl)
  have d8 := hs.cell 8 (.int .u8 (s.low : Nat)) (fun _ => rfl)
  have d9 := hs.cell 9 (.int .u8 (s.high : Nat)) (fun _ => rfl)
  have f7 := hs.fz 7
  have f8 := hs.fz 8
  have f9 := hs.fz 9
  have HS2 : Hid (ScAt _ S g (sBytes s 2 160 191)) := Lib.hid (ScAt.store (ScAt.store (ScAt.store (ScAt.store hs 8 (.int .u8 128) ({ s with low := 128 }) (fun _ => rfl) rfl) 9 (.int .u8 191) ({ s with low := 128, high := 191 }) (fun _ => rfl) rfl) 7 (.int .i64 2) (sBytes s 2 128 191) (fun _ => rfl) rfl) 8 (.int .u8 160) (sBytes s 2 160 191) (fun _ => rfl) rfl)
  have HT := Lib.hid (to_any _ S g _ jFollow false HS2.out)
  unfold jFollow at HT
  clear hs 
  go_enter Tryd.func47, Tryd.ntmps47
  go_wp2_with fail
  refine HT.out.mono ?_
  rintro e w2 ⟨rfl, h2⟩
  have H2 := Lib.hid h2
  clear h2
  go_wp2_with fail
  go_ret
  exact ScPost.after (((((Keeps.refl _ w).setCell (p := ⟨g, 8, none⟩) (.inl HM.out) _).setCell (p := ⟨g, 9, none⟩) (.inl HM.out) _).setCell (p := ⟨g, 7, none⟩) (.inl HM.out) _).setCell (p := ⟨g, 8, none⟩) (.inl HM.out) _) (Fresh.refl _ _) ⟨rfl, H2.out⟩

set_option maxRecDepth 100000 in
set_option maxHeartbeats 3000000 in
theorem text_237 (w : World) (S : Nat → Prop) (g : Nat) (s : Sc) (hs : ScAt w S g s) :
    Calls Tryd.prog 47 #[.pointer (some ⟨g, 0, none⟩), .int .u8 237] w (ScPost w S g (sTo (sBytes s 2 128 159) jFollow false, 0)) := by
  have hmf := mk_f
  have HM := Lib.hid hs.mem
  have d7 := hs.cell 7 (.int .i64 (s.left : Nat)) (fun _ => rfl)
  have d8 := hs.cell 8 (.int .u8 (s.low : Nat)) (fun _ => rfl)
  have d9 := hs.cell 9 (.int .u8 (s.high : Nat)) (fun _ => rfl)
  have f7 := hs.fz 7
  have f8 := hs.fz 8
  have f9 := hs.fz 9
  have HS2 : Hid (ScAt _ S g (sBytes s 2 128 159)) := Lib.hid (ScAt.store (ScAt.store (ScAt.store (ScAt.store hs 8 (.int .u8 128) ({ s with low := 128 }) (fun _ => rfl) rfl) 9 (.int .u8 191) ({ s with low := 128, high := 191 }) (fun _ => rfl) rfl) 7 (.int .i64 2) (sBytes s 2 128 191) (fun _ => rfl) rfl) 9 (.int .u8 159) (sBytes s 2 128 159) (fun _ => rfl) rfl)
  have HT := Lib.hid (to_any _ S g _ jFollow false HS2.out)
  unfold jFollow at HT
  clear hs 
  go_enter Tryd.func47, Tryd.ntmps47
  go_wp2_with fail
  refine HT.out.mono ?_
  rintro e w2 ⟨rfl, h2⟩
  have H2 := Lib.hid h2
  clear h2
  go_wp2_with fail
  go_ret
  exact ScPost.after (((((Keeps.refl _ w).setCell (p := ⟨g, 8, none⟩) (.inl HM.out) _).setCell (p := ⟨g, 9, none⟩) (.inl HM.out) _).setCell (p := ⟨g, 7, none⟩) (.inl HM.out) _).setCell (p := ⟨g, 9, none⟩) (.inl HM.out) _) (Fresh.refl _ _) ⟨rfl, H2.out⟩

set_option maxRecDepth 100000 in
set_option maxHeartbeats 3000000 in
theorem text_240 (w : World) (S : Nat → Prop) (g : Nat) (s : Sc) (hs : ScAt w S g s) :
    Calls Tryd.prog 47 #[.pointer (some ⟨g, 0, none⟩), .int .u8 240] w (ScPost w S g (sTo (sBytes s 3 144 191) jFollow false, 0)) := by
  have hmf := mk_f
  have HM := Lib.hid hs.mem
  have d7 := hs.cell 7 (.int .i64 (s.left : Nat)) (fun _ => rfl)
  have d8 := hs.cell 8 (.int .u8 (s.low : Nat)) (fun _ => rfl)
  have d9 := hs.cell 9 (.int .u8 (s.high : Nat)) (fun _ => rfl)
  have f7 := hs.fz 7
  have f8 := hs.fz 8
  have f9 := hs.fz 9
  have HS2 : Hid (ScAt _ S g (sBytes s 3 144 191)) := Lib.hid (ScAt.store (ScAt.store (ScAt.store (ScAt.store hs 8 (.int .u8 128) ({ s with low := 128 }) (fun _ => rfl) rfl) 9 (.int .u8 191) ({ s with low := 128, high := 191 }) (fun _ => rfl) rfl) 7 (.int .i64 3) (sBytes s 3 128 191) (fun _ => rfl) rfl) 8 (.int .u8 144) (sBytes s 3 144 191) (fun _ => rfl) rfl)
  have HT := Lib.hid (to_any _ S g _ jFollow false HS2.out)
  unfold jFollow at HT
  clear hs 
  go_enter Tryd.func47, Tryd.ntmps47
  go_wp2_with fail
  refine HT.out.mono ?_
  rintro e w2 ⟨rfl, h2⟩
  have H2 := Lib.hid h2
  clear h2
  go_wp2_with fail
  go_ret
  exact ScPost.after (((((Keeps.refl _ w).setCell (p := ⟨g, 8, none⟩) (.inl HM.out) _).setCell (p := ⟨g, 9, none⟩) (.inl HM.out) _).setCell (p := ⟨g, 7, none⟩) (.inl HM.out) _).setCell (p := ⟨g, 8, none⟩) (.inl HM.out) _) (Fresh.refl _ _) ⟨rfl, H2.out⟩

set_option maxRecDepth 100000 in
set_option maxHeartbeats 3000000 in
theorem text_244 (w : World) (S : Nat → Prop) (g : Nat) (s : Sc) (hs : ScAt w S g s) :
    Calls Tryd.prog 47 #[.pointer (some ⟨g, 0, none⟩), .int .u8 244] w (ScPost w S g (sTo (sBytes s 3 128 143) jFollow false, 0)) := by
  have hmf := mk_f
  have HM := Lib.hid hs.mem
  have d7 := hs.cell 7 (.int .i64 (s.left : Nat)) (fun _ => rfl)
  have d8 := hs.cell 8 (.int .u8 (s.low : Nat)) (fun _ => rfl)
  have d9 := hs.cell 9 (.int .u8 (s.high : Nat)) (fun _ => rfl)
  have f7 := hs.fz 7
  have f8 := hs.fz 8
  have f9 := hs.fz 9
  have HS2 : Hid (ScAt _ S g (sBytes s 3 128 143)) := Lib.hid (ScAt.store (ScAt.store (ScAt.store (ScAt.store hs 8 (.int .u8 128) ({ s with low := 128 }) (fun _ => rfl) rfl) 9 (.int .u8 191) ({ s with low := 128, high := 191 }) (fun _ => rfl) rfl) 7 (.int .i64 3) (sBytes s 3 128 191) (fun _ => rfl) rfl) 9 (.int .u8 143) (sBytes s 3 128 143) (fun _ => rfl) rfl)
  have HT := Lib.hid (to_any _ S g _ jFollow false HS2.out)
  unfold jFollow at HT
  clear hs 
  go_enter Tryd.func47, Tryd.ntmps47
  go_wp2_with fail
  refine HT.out.mono ?_
  rintro e w2 ⟨rfl, h2⟩
  have H2 := Lib.hid h2
  clear h2
  go_wp2_with fail
  go_ret
  exact ScPost.after (((((Keeps.refl _ w).setCell (p := ⟨g, 8, none⟩) (.inl HM.out) _).setCell (p := ⟨g, 9, none⟩) (.inl HM.out) _).setCell (p := ⟨g, 7, none⟩) (.inl HM.out) _).setCell (p := ⟨g, 9, none⟩) (.inl HM.out) _) (Fresh.refl _ _) ⟨rfl, H2.out⟩

theorem text_any (w : World) (S : Nat → Prop) (g : Nat) (s : Sc) (c : Nat) (hc : c < 256) (hs : ScAt w S g s) :
    Calls Tryd.prog 47 #[.pointer (some ⟨g, 0, none⟩), .int .u8 c] w (ScPost w S g (pText s c)) := by
  unfold pText
  by_cases h1 : c = 34
  · rw [if_pos h1]; subst h1
    cases hk : s.key
    · rw [if_neg (by simp)]; exact text_end w S g s hk hs
    · rw [if_pos rfl]; exact text_end_key w S g s hk hs
  rw [if_neg h1]
  by_cases h2 : c = 92
  · rw [if_pos h2]; subst h2; exact text_stroke w S g s hs
  rw [if_neg h2]
  by_cases h3 : c < 32
  · rw [if_pos h3]; exact text_low w S g s c h3 hs
  rw [if_neg h3]
  by_cases h4 : c < 128
  · rw [if_pos h4]; exact text_ascii w S g s c (by omega) h4 h1 h2 hs
  rw [if_neg h4]
  by_cases h5 : c < 194
  · rw [if_pos (.inl h5)]; exact text_128 w S g s c (by omega) (by omega) hs
  by_cases h6 : 244 < c
  · rw [if_pos (.inr h6)]; exact text_245 w S g s c (by omega) (by omega) hs
  rw [if_neg (by omega)]
  unfold lowJ highJ
  by_cases k1 : c = 224
  · subst k1; exact text_224 w S g s hs
  by_cases k2 : c = 237
  · subst k2; exact text_237 w S g s hs
  by_cases k3 : c = 240
  · subst k3; exact text_240 w S g s hs
  by_cases k4 : c = 244
  · subst k4; exact text_244 w S g s hs
  rw [if_neg k1, if_neg k3, if_neg k2, if_neg k4]
  by_cases h7 : c < 224
  · rw [if_pos h7]; exact text_194 w S g s c (by omega) (by omega) hs
  rw [if_neg h7]
  by_cases h8 : c < 240
  · rw [if_pos h8]
    by_cases h9 : c < 237
    · exact text_225 w S g s c (by omega) (by omega) hs
    · exact text_238 w S g s c (by omega) (by omega) hs
  · rw [if_neg h8]; exact text_241 w S g s c (by omega) (by omega) hs
end Go.Proofs.YtjfeebbhkolmoaaDoor
