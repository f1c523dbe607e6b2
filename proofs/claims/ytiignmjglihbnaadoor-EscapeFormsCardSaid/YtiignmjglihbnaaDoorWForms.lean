/- cruciblelaw10.EscapeForms: true. -/
import Derived.Test.YtiignmjglihbnaaDoorWBack
import Derived.Test.YtiignmjglihbnaaDoorForms
namespace Go.Proofs.YtiignmjglihbnaaDoor
open Go.RowKit
set_option linter.unusedVariables false

theorem str_eq (a b : ByteArray) : a.toList = b.toList ↔ a = b := by
  constructor
  · intro h
    rw [ByteArray.toList_eq, ByteArray.toList_eq] at h
    apply ByteArray.ext
    exact Array.toList_inj.1 h
  · intro h; rw [h]
theorem quote_of (S : ByteArray) (hs : S.size ≤ 1048576) (ht : isTextB S = true) : badAt S = S.size ∧ (litB S).size ≤ 100000000 := by
  have h := isText_bad S
  rw [ht] at h
  have h2 := lit_ge S
  exact ⟨of_decide_eq_true h.symm, by omega⟩

set_option maxRecDepth 100000 in
set_option maxHeartbeats 3000000 in
theorem wforms (l k : ByteArray) (hl : l.size ≤ 1048576) (hk : k.size ≤ 1048576) (a : Nat → Addr) (w : World) (he : Errs w a) (hsh : Shorts w) :
    Calls Tryd.prog 7 #[.string l, .string k] w fun e w' => e = .returned (.bool true) ∧ Below w.heap.size w w' := by
  have HL := Lib.hid (lives_any a w he hsh)
  have HU1 := Lib.hid (fun wx (hb : Below w.heap.size w wx) => unquote_at l (by omega) a wx (he.below hb) (hsh.below hb))
  have HU2 := Lib.hid (fun wx (hb : Below w.heap.size w wx) => unquote_at k (by omega) a wx (he.below hb) (hsh.below hb))
  have HE := Lib.hid he
  have HSH := Lib.hid hsh
  unfold UnqPost at HU1 HU2
  cases hR1 : unqQ l (scanQ l 0) with
  | error i =>
    rw [hR1] at HU1
    simp only [] at HU1
    clear he hsh hR1
    cases hR2 : unqQ k (scanQ k 0) with
    | error i2 =>
      rw [hR2] at HU2
      simp only [] at HU2
      clear hR2
      go_enter Tryd.func7, Tryd.ntmps7
      go_wp2_with fail
      refine HL.out.mono ?_
      rintro e w1 ⟨rfl, hb1⟩
      have HB1 := Lib.hid hb1
      clear hb1
      go_wp2_with fail
      refine (HU1.out w1 HB1.out).mono ?_
      rintro e w2 ⟨hb2, g, rfl, -⟩
      have HB2 : Hid (Below w.heap.size w w2) := Lib.hid (HB1.out.trans (hb2.mono HB1.out.size))
      clear hb2
      go_wp2_with fail
      refine (HU2.out w2 HB2.out).mono ?_
      rintro e w3 ⟨hb3, g2, rfl, -⟩
      have HB3 : Hid (Below w.heap.size w w3) := Lib.hid (HB2.out.trans (hb3.mono HB2.out.size))
      clear hb3
      go_wp2_with fail
      go_ret
      exact ⟨by first | rfl | simp, HB3.out⟩
    | ok t2 =>
      rw [hR2] at HU2
      simp only [] at HU2
      clear hR2
      generalize strOf t2 = T at *
      go_enter Tryd.func7, Tryd.ntmps7
      go_wp2_with fail
      refine HL.out.mono ?_
      rintro e w1 ⟨rfl, hb1⟩
      have HB1 := Lib.hid hb1
      clear hb1
      go_wp2_with fail
      refine (HU1.out w1 HB1.out).mono ?_
      rintro e w2 ⟨hb2, g, rfl, -⟩
      have HB2 : Hid (Below w.heap.size w w2) := Lib.hid (HB1.out.trans (hb2.mono HB1.out.size))
      clear hb2
      go_wp2_with fail
      refine (HU2.out w2 HB2.out).mono ?_
      rintro e w3 ⟨hb3, rfl⟩
      have HB3 : Hid (Below w.heap.size w w3) := Lib.hid (HB2.out.trans (hb3.mono HB2.out.size))
      clear hb3
      go_wp2_with fail
      go_ret
      exact ⟨by first | rfl | simp, HB3.out⟩
  | ok t1 =>
    rw [hR1] at HU1
    simp only [] at HU1
    obtain ⟨hS, hSl, -⟩ := form_law l t1 hR1
    have hSz : (strOf t1).size ≤ 1048576 := by rw [strOf_size]; omega
    obtain ⟨hbs, hq⟩ := quote_of _ hSz hS
    have HQ1 := Lib.hid (fun wx (hb : Below w.heap.size w wx) => quote_yes (strOf t1) hSz hS wx (hsh.below hb))
    have HU3 := Lib.hid (fun wx (hb : Below w.heap.size w wx) => unquote_at (litB (strOf t1)) (by omega) a wx (he.below hb) (hsh.below hb))
    rw [unq_back _ hS] at HU3
    unfold UnqPost at HU3
    simp only [] at HU3
    rw [strOf_bytes] at HU3
    have HBD := Lib.hid (fun wx => bad_any (strOf t1) (by omega) wx)
    rw [hbs] at HBD
    cases hR2 : unqQ k (scanQ k 0) with
    | error i2 =>
      rw [hR2] at HU2
      simp only [] at HU2
      clear he hsh hR1 hR2 hS hSl hSz hbs hq
      generalize litB (strOf t1) = Q at *
      generalize strOf t1 = S at *
      go_enter Tryd.func7, Tryd.ntmps7
      go_wp2_with fail
      refine HL.out.mono ?_
      rintro e w1 ⟨rfl, hb1⟩
      have HB1 := Lib.hid hb1
      clear hb1
      go_wp2_with fail
      refine (HU1.out w1 HB1.out).mono ?_
      rintro e w2 ⟨hb2, rfl⟩
      have HB2 : Hid (Below w.heap.size w w2) := Lib.hid (HB1.out.trans (hb2.mono HB1.out.size))
      clear hb2
      go_wp2_with fail
      refine (HU2.out w2 HB2.out).mono ?_
      rintro e w3 ⟨hb3, g2, rfl, -⟩
      have HB3 : Hid (Below w.heap.size w w3) := Lib.hid (HB2.out.trans (hb3.mono HB2.out.size))
      clear hb3
      go_wp2_with fail
      refine (HQ1.out w3 HB3.out).mono ?_
      rintro e w4 ⟨rfl, hb4⟩
      have HB4 : Hid (Below w.heap.size w w4) := Lib.hid (HB3.out.trans (hb4.mono HB3.out.size))
      clear hb4
      go_wp2_with fail
      refine (HU3.out w4 HB4.out).mono ?_
      rintro e w5 ⟨hb5, rfl⟩
      have HB5 : Hid (Below w.heap.size w w5) := Lib.hid (HB4.out.trans (hb5.mono HB4.out.size))
      clear hb5
      go_wp2_with fail
      refine (HBD.out w5).mono ?_
      rintro e w6 ⟨rfl, rfl⟩
      go_wp2_with fail
      go_ret
      exact ⟨by first | rfl | simp, HB5.out⟩
    | ok t2 =>
      rw [hR2] at HU2
      simp only [] at HU2
      obtain ⟨hT, hTl, -⟩ := form_law k t2 hR2
      have hTz : (strOf t2).size ≤ 1048576 := by rw [strOf_size]; omega
      have HQ2 := Lib.hid (fun wx (hb : Below w.heap.size w wx) => quote_yes (strOf t2) hTz hT wx (hsh.below hb))
      have hinj : (((litB (strOf t2)).toList == (litB (strOf t1)).toList) == ((strOf t1).toList == (strOf t2).toList)) = true := by
        by_cases q : strOf t1 = strOf t2
        · rw [q]; simp
        · have h1 : ((strOf t1).toList == (strOf t2).toList) = false := by rw [beq_eq_false_iff_ne]; exact fun k => q ((str_eq _ _).1 k)
          have h2 : ((litB (strOf t2)).toList == (litB (strOf t1)).toList) = false := by rw [beq_eq_false_iff_ne]; exact fun k => q (lit_inj _ _ hS hT ((str_eq _ _).1 k).symm)
          rw [h1, h2]; rfl
      have HINJ := Lib.hid hinj
      clear he hsh hR1 hR2 hS hSl hSz hbs hq hT hTl hTz hinj
      generalize litB (strOf t1) = Q at *
      generalize litB (strOf t2) = P at *
      generalize strOf t1 = S at *
      generalize strOf t2 = T at *
      go_enter Tryd.func7, Tryd.ntmps7
      go_wp2_with fail
      refine HL.out.mono ?_
      rintro e w1 ⟨rfl, hb1⟩
      have HB1 := Lib.hid hb1
      clear hb1
      go_wp2_with fail
      refine (HU1.out w1 HB1.out).mono ?_
      rintro e w2 ⟨hb2, rfl⟩
      have HB2 : Hid (Below w.heap.size w w2) := Lib.hid (HB1.out.trans (hb2.mono HB1.out.size))
      clear hb2
      go_wp2_with fail
      refine (HU2.out w2 HB2.out).mono ?_
      rintro e w3 ⟨hb3, rfl⟩
      have HB3 : Hid (Below w.heap.size w w3) := Lib.hid (HB2.out.trans (hb3.mono HB2.out.size))
      clear hb3
      go_wp2_with fail
      refine (HQ1.out w3 HB3.out).mono ?_
      rintro e w4 ⟨rfl, hb4⟩
      have HB4 : Hid (Below w.heap.size w w4) := Lib.hid (HB3.out.trans (hb4.mono HB3.out.size))
      clear hb4
      go_wp2_with fail
      refine (HU3.out w4 HB4.out).mono ?_
      rintro e w5 ⟨hb5, rfl⟩
      have HB5 : Hid (Below w.heap.size w w5) := Lib.hid (HB4.out.trans (hb5.mono HB4.out.size))
      clear hb5
      go_wp2_with fail
      refine (HBD.out w5).mono ?_
      rintro e w6 ⟨rfl, rfl⟩
      go_wp2_with fail
      refine (HQ2.out _ HB5.out).mono ?_
      rintro e w7 ⟨rfl, hb7⟩
      have HB7 : Hid (Below w.heap.size w w7) := Lib.hid (HB5.out.trans (hb7.mono HB5.out.size))
      clear hb7
      go_wp2_with fail
      go_ret
      exact ⟨congrArg (fun x => Ending.returned (.bool x)) HINJ.out, HB7.out⟩
theorem wformsB (l : ByteArray) (hl : l.size ≤ 1048576) (k : ByteArray) (hk : k.size ≤ 1048576) (a : Nat → Addr) (w : World) (he : Errs w a) (hsh : Shorts w) :
    Calls Tryd.prog 7 #[.string l, .string k] w fun e w' => e = .returned (.bool true) ∧ Below w.heap.size w w' := wforms l k hl hk a w he hsh
end Go.Proofs.YtiignmjglihbnaaDoor
