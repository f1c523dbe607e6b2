/- Contracts of crucibleref07.size and crucibleref07.Cmp. -/
import Derived.Test.YtgckfilmhnapeaaDoorDec3
import Derived.Test.YtgckfilmhnapeaaDoorDec4
namespace Go.Proofs.YtgckfilmhnapeaaDoor
open Go.RowKit Go.Lib
set_option linter.unusedVariables false

theorem compare_less (a b : List UInt8) : compareBytes a b = if (a == b) = true then 0 else if Op.bytesLess a b = true then -1 else 1 := by
  induction a generalizing b with
  | nil => cases b <;> simp [compareBytes, Op.bytesLess]
  | cons x a ih =>
    cases b with
    | nil => simp [compareBytes, Op.bytesLess]
    | cons y b =>
      unfold compareBytes Op.bytesLess
      rw [ih b]
      by_cases h1 : x < y
      · have hne : x ≠ y := by rintro rfl; exact absurd h1 (UInt8.lt_irrefl _)
        simp [h1, hne]
      · by_cases h2 : y < x
        · have hne : x ≠ y := by rintro rfl; exact absurd h2 (UInt8.lt_irrefl _)
          simp [h1, h2, hne]
        · obtain rfl : x = y := by
            rw [UInt8.lt_iff_toNat_lt] at h1 h2
            exact UInt8.toNat_inj.1 (by omega)
          simp [h1]
theorem cmpStr_less (s t : ByteArray) : cmpStr s t = if (s.toList == t.toList) = true then 0 else if Op.bytesLess s.toList t.toList = true then -1 else 1 := by
  rw [Lib.toList_data, Lib.toList_data]; exact compare_less _ _
theorem sizeR_wrap (p q hp hq : Int) (n m : Nat) (C : Int) (h1 : -9223372036854775808 ≤ p) (h2 : q ≤ 9223372036854775807) (h3 : -9223372036854775808 ≤ q) (h4 : p ≤ 9223372036854775807)
    (hn : n ≤ 140737488355328) (hm : m ≤ 140737488355328) (g1 : 2 * hp ≤ p + 1) (g2 : p - 1 ≤ 2 * hp) (g3 : 2 * hq ≤ q + 1) (g4 : q - 1 ≤ 2 * hq) (g5 : 0 ≤ p → 2 * hp ≤ p) (g6 : 0 ≤ q → 2 * hq ≤ q) :
    sizeR p hp n q hq m C = if 1099511627776 < wrap64 (hp - hq) then 1 else if wrap64 (hp - hq) < -1099511627776 then -1
      else if (wrap64 (wrap64 (wrap64 (p - q) - n) + m) != 0) = true then (if wrap64 (wrap64 (wrap64 (p - q) - n) + m) < 0 then -1 else 1) else C := by
  have e1 : wrap64 (hp - hq) = hp - hq := by unfold wrap64; omega
  rw [e1]
  unfold sizeR
  by_cases a : 1099511627776 < hp - hq
  · rw [if_pos a, if_pos a]
  · rw [if_neg a, if_neg a]
    by_cases b : hp - hq < -1099511627776
    · rw [if_pos b, if_pos b]
    · rw [if_neg b, if_neg b]
      have e2 : wrap64 (wrap64 (wrap64 (p - q) - n) + m) = p - q - n + m := by unfold wrap64; omega
      rw [e2]
      by_cases c : p - q - n + m = 0
      · simp [c]
      · have hc : (p - q - n + m != 0) = true := by simpa using c
        rw [if_pos hc, if_pos c]
theorem half_bd (p : Int) : 2 * p.tdiv 2 ≤ p + 1 ∧ p - 1 ≤ 2 * p.tdiv 2 ∧ (0 ≤ p → 2 * p.tdiv 2 ≤ p) := by
  cases p with
  | ofNat n =>
    have h : (Int.ofNat n).tdiv 2 = ((n / 2 : Nat) : Int) := rfl
    have h2 : Int.ofNat n = (n : Int) := rfl
    rw [h, h2]
    omega
  | negSucc n =>
    have h : (Int.negSucc n).tdiv 2 = -(((n + 1) / 2 : Nat) : Int) := rfl
    rw [h]
    omega

set_option maxRecDepth 100000 in
set_option maxHeartbeats 3000000 in
theorem size_ref (na nb : Bool) (a b : ByteArray) (p q : Int) (w : World) (h1 : -9223372036854775808 ≤ p) (h2 : q ≤ 9223372036854775807) (h3 : -9223372036854775808 ≤ q) (h4 : p ≤ 9223372036854775807) (hn : a.size ≤ 140737488355328) (hm : b.size ≤ 140737488355328) :
    Calls Tryd.prog 32 #[.agg #[.bool na, .string a, .int .i64 p], .agg #[.bool nb, .string b, .int .i64 q]] w fun e w' =>
      e = .returned (.int .i64 (sizeR p (p.tdiv 2) (leadL a.data.toList) q (q.tdiv 2) (leadL b.data.toList) (cmpStr (plainS a) (plainS b)))) ∧ Below w.heap.size w w' := by
  have hla : leadL a.data.toList ≤ 140737488355328 := Nat.le_trans (lead_le _) (by rw [bytes_len]; exact hn)
  have hlb : leadL b.data.toList ≤ 140737488355328 := Nat.le_trans (lead_le _) (by rw [bytes_len]; exact hm)
  have HPA := Lib.hid (fun wx => plain_ref a wx (by omega))
  have HPB := Lib.hid (fun wx => plain_ref b wx (by omega))
  have HCS := Lib.hid (cmpStr_less (plainS a) (plainS b))
  generalize cmpStr (plainS a) (plainS b) = C at *
  generalize plainS a = S at *
  generalize plainS b = T at *
  generalize leadL a.data.toList = n at *
  generalize leadL b.data.toList = m at *
  obtain ⟨g1, g2, g5⟩ := half_bd p
  obtain ⟨g3, g4, g6⟩ := half_bd q
  have HE := Lib.hid (sizeR_wrap p q (p.tdiv 2) (q.tdiv 2) n m C h1 h2 h3 h4 hla hlb g1 g2 g3 g4 g5 g6)
  clear g1 g2 g3 g4 g5 g6 hn hm
  have T0 := two_new w na nb a b p q
  have HW0 : Hid (W2 w na nb a b p q = (w.alloc (.cells #[.bool na, .string a, .int .i64 p] 23)).alloc (.cells #[.bool nb, .string b, .int .i64 q] 23)) := Lib.hid rfl
  generalize W2 w na nb a b p q = W0 at *
  have HT0 := Lib.hid T0
  obtain ⟨c0, c1, c2, d0, d1, d2⟩ := T0.cells
  clear T0
  go_enter Tryd.func32, Tryd.ntmps32
  go_wp2_with fail
  rw [← HW0.out]
  go_wp2_with fail
  refine (HPA.out _).mono ?_
  rintro e w1 ⟨rfl, rfl⟩
  go_wp2_with fail
  refine (HPB.out _).mono ?_
  rintro e w1 ⟨rfl, rfl⟩
  go_wp2_with fail
  · go_ret
    exact ⟨by rw [HE.out, if_pos (by assumption)] <;> rfl, HT0.out.bel⟩
  · go_ret
    exact ⟨by rw [HE.out, if_neg (Int.not_lt.2 (by assumption)), if_pos (by assumption)] <;> rfl, HT0.out.bel⟩
  · go_ret
    exact ⟨by rw [HE.out, if_neg (Int.not_lt.2 (by assumption)), if_neg (Int.not_lt.2 (by assumption)), if_pos (by assumption), if_pos (by assumption)] <;> rfl, HT0.out.bel⟩
  · go_ret
    exact ⟨by rw [HE.out, if_neg (Int.not_lt.2 (by assumption)), if_neg (Int.not_lt.2 (by assumption)), if_pos (by assumption), if_neg (Int.not_lt.2 (by assumption))] <;> rfl, HT0.out.bel⟩
  · go_ret
    exact ⟨by rw [HE.out, if_neg (Int.not_lt.2 (by assumption)), if_neg (Int.not_lt.2 (by assumption)), if_neg (Bool.eq_false_iff.1 (by assumption)), HCS.out, if_pos (by assumption)] <;> rfl, HT0.out.bel⟩
  · go_ret
    exact ⟨by rw [HE.out, if_neg (Int.not_lt.2 (by assumption)), if_neg (Int.not_lt.2 (by assumption)), if_neg (Bool.eq_false_iff.1 (by assumption)), HCS.out, if_neg (Bool.eq_false_iff.1 (by assumption)), if_pos (by assumption)] <;> rfl, HT0.out.bel⟩
  · go_ret
    exact ⟨by rw [HE.out, if_neg (Int.not_lt.2 (by assumption)), if_neg (Int.not_lt.2 (by assumption)), if_neg (Bool.eq_false_iff.1 (by assumption)), HCS.out, if_neg (Bool.eq_false_iff.1 (by assumption)), if_neg (Bool.eq_false_iff.1 (by assumption))] <;> rfl, HT0.out.bel⟩

def szR (a b : ByteArray) (p q : Int) : Int := sizeR p (p.tdiv 2) (leadL a.data.toList) q (q.tdiv 2) (leadL b.data.toList) (cmpStr (plainS a) (plainS b))
/-- what crucibleref07.Cmp answers -/
def cmpRV (na : Bool) (a : ByteArray) (p : Int) (nb : Bool) (b : ByteArray) (q : Int) : Int :=
  if bothB a b = true then cmpR na (smB a) nb (smB b) (szR a b p q) else 0
theorem sizeR_cases (p hp : Int) (n : Nat) (q hq : Int) (m : Nat) (c : Int) (hc : c = -1 ∨ c = 0 ∨ c = 1) : sizeR p hp n q hq m c = -1 ∨ sizeR p hp n q hq m c = 0 ∨ sizeR p hp n q hq m c = 1 := by
  unfold sizeR
  repeat' split
  all_goals first | omega | simp_all
theorem szR_cases (a b : ByteArray) (p q : Int) : szR a b p q = -1 ∨ szR a b p q = 0 ∨ szR a b p q = 1 := sizeR_cases _ _ _ _ _ _ _ (cmpStr_cases _ _)
theorem sm_cases (s : ByteArray) : (plainS s = ByteArray.empty ∧ smB s = false) ∨ ((plainS s).toList.isEmpty = false ∧ smB s = true) := by
  unfold smB
  rw [Lib.toList_data]
  by_cases h : (plainS s).data.toList = []
  · left
    refine ⟨?_, by rw [h]; rfl⟩
    have : (plainS s).data = #[] := by simpa using h
    cases hh : plainS s with
    | mk d => rw [hh] at this; simp at this; rw [this]; rfl
  · right
    have h' : (plainS s).data.toList.isEmpty = false := by simpa using h
    exact ⟨h', by rw [h']; rfl⟩

set_option maxRecDepth 100000 in
set_option maxHeartbeats 4000000 in
theorem cmp_ref (na nb : Bool) (a b : ByteArray) (p q : Int) (w : World) (h1 : -9223372036854775808 ≤ p) (h2 : q ≤ 9223372036854775807) (h3 : -9223372036854775808 ≤ q) (h4 : p ≤ 9223372036854775807) (hn : a.size ≤ 140737488355328) (hm : b.size ≤ 140737488355328) :
    Calls Tryd.prog 11 #[.agg #[.bool na, .string a, .int .i64 p], .agg #[.bool nb, .string b, .int .i64 q]] w fun e w' =>
      e = .returned (.tuple #[.int .i64 (cmpRV na a p nb b q), .bool (bothB a b)]) ∧ Below w.heap.size w w' := by
  have HFA := Lib.hid (fun wx => fine_ref na a p wx (by omega))
  have HFB := Lib.hid (fun wx => fine_ref nb b q wx (by omega))
  have HPA := Lib.hid (fun wx => plain_ref a wx (by omega))
  have HPB := Lib.hid (fun wx => plain_ref b wx (by omega))
  have HZ := Lib.hid (fun wx => size_ref na nb a b p q wx h1 h2 h3 h4 hn hm)
  have hzc := szR_cases a b p q
  change Hid (∀ wx, Calls Tryd.prog 32 #[.agg #[.bool na, .string a, .int .i64 p], .agg #[.bool nb, .string b, .int .i64 q]] wx fun e w' => e = .returned (.int .i64 (szR a b p q)) ∧ Below wx.heap.size wx w') at HZ
  have HV : Hid (cmpRV na a p nb b q = if (fineB a && fineB b) = true then cmpR na (smB a) nb (smB b) (szR a b p q) else 0) := Lib.hid rfl
  have HW : Hid (bothB a b = (fineB a && fineB b)) := Lib.hid rfl
  have hx := sm_cases a
  have hy := sm_cases b
  generalize smB a = X at *
  generalize smB b = Y at *
  generalize szR a b p q = Z at *
  generalize plainS a = S at *
  generalize plainS b = T at *
  generalize leadL a.data.toList = n at *
  generalize leadL b.data.toList = m at *
  generalize fineB a = fa at *
  generalize fineB b = fb at *
  clear h1 h2 h3 h4 hn hm
  have hz1 : -1 ≤ Z := by omega
  have hz2 : Z ≤ 1 := by omega
  clear hzc
  have T0 := two_new w na nb a b p q
  have HW0 : Hid (W2 w na nb a b p q = (w.alloc (.cells #[.bool na, .string a, .int .i64 p] 23)).alloc (.cells #[.bool nb, .string b, .int .i64 q] 23)) := Lib.hid rfl
  generalize W2 w na nb a b p q = W0 at *
  have HT0 := Lib.hid T0
  obtain ⟨c0, c1, c2, d0, d1, d2⟩ := T0.cells
  clear T0
  cases fa
  · have HV1 : Hid (cmpRV na a p nb b q = 0) := Lib.hid (by rw [HV.out]; rfl)
    clear HV hx hy hz1 hz2
    go_enter Tryd.func11, Tryd.ntmps11
    go_wp2_with fail
    rw [← HW0.out]
    go_wp2_with fail
    refine (HFA.out _).mono ?_
    rintro e w1 ⟨rfl, hb1⟩
    have HT1 := Lib.hid (HT0.out.below hb1)
    clear hb1 c0 c1 c2 d0 d1 d2
    go_wp2_with fail
    go_ret2
    exact ⟨tup2 (by rw [HV1.out]) (by rw [HW.out]; rfl), HT1.out.bel⟩
  · cases fb
    · have HV1 : Hid (cmpRV na a p nb b q = 0) := Lib.hid (by rw [HV.out]; rfl)
      clear HV hx hy hz1 hz2
      go_enter Tryd.func11, Tryd.ntmps11
      go_wp2_with fail
      rw [← HW0.out]
      go_wp2_with fail
      refine (HFA.out _).mono ?_
      rintro e w1 ⟨rfl, hb1⟩
      have HT1 := Lib.hid (HT0.out.below hb1)
      clear hb1 c0 c1 c2 d0 d1 d2
      obtain ⟨c0, c1, c2, d0, d1, d2⟩ := HT1.out.cells
      go_wp2_with fail
      refine (HFB.out _).mono ?_
      rintro e w2 ⟨rfl, hb2⟩
      have HT2 := Lib.hid (HT1.out.below hb2)
      clear hb2 c0 c1 c2 d0 d1 d2
      go_wp2_with fail
      go_ret2
      exact ⟨tup2 (by rw [HV1.out]) (by rw [HW.out]; rfl), HT2.out.bel⟩
    · have HV1 : Hid (cmpRV na a p nb b q = cmpR na X nb Y Z) := Lib.hid (by rw [HV.out]; rfl)
      clear HV
      rcases hx with ⟨rfl, rfl⟩ | ⟨hx1, rfl⟩ <;> rcases hy with ⟨rfl, rfl⟩ | ⟨hy1, rfl⟩ <;> cases na <;> cases nb
      all_goals
        as_aux_lemma =>
          go_enter Tryd.func11, Tryd.ntmps11
          go_wp2_with fail
          rw [← HW0.out]
          go_wp2_with fail
          refine (HFA.out _).mono ?_
          rintro e w1 ⟨rfl, hb1⟩
          have HT1 := Lib.hid (HT0.out.below hb1)
          clear hb1 c0 c1 c2 d0 d1 d2
          obtain ⟨c0, c1, c2, d0, d1, d2⟩ := HT1.out.cells
          go_wp2_with fail
          refine (HFB.out _).mono ?_
          rintro e w2 ⟨rfl, hb2⟩
          have HT2 := Lib.hid (HT1.out.below hb2)
          clear hb2 c0 c1 c2 d0 d1 d2
          obtain ⟨c0, c1, c2, d0, d1, d2⟩ := HT2.out.cells
          go_wp2_with fail
          refine (HPA.out _).mono ?_
          rintro e w3 ⟨rfl, rfl⟩
          go_wp2_with fail
          refine (HPB.out _).mono ?_
          rintro e w4 ⟨rfl, rfl⟩
          go_wp2_with fail
          first
            | ((with_reducible refine (HZ.out _).mono ?_)
               rintro e w5 ⟨rfl, hb5⟩
               have HT5 := Lib.hid (HT2.out.below hb5)
               clear hb5 c0 c1 c2 d0 d1 d2
               go_wp2_with fail
               go_ret2
               exact ⟨tup2 (by rw [HV1.out]; rfl) (by rw [HW.out]; rfl), HT5.out.bel⟩)
            | (go_ret2
               exact ⟨tup2 (by rw [HV1.out]; rfl) (by rw [HW.out]; rfl), HT2.out.bel⟩)
end Go.Proofs.YtgckfilmhnapeaaDoor
