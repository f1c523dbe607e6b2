/- Contracts of decimal.size and decimal.Cmp. -/
import Derived.Test.YtgckfilmhnapeaaDoorDec2
import Derived.Test.YtgckfilmhnapeaaDoorDecPlain
namespace Go.Proofs.YtgckfilmhnapeaaDoor
open Go.RowKit Go.Lib
set_option linter.unusedVariables false

theorem compareInt_sgn (x y : Int) : compareInt x y = sgn (x - y) := by
  unfold compareInt sgn
  repeat' split
  all_goals omega
theorem compareB_cases (a b : List UInt8) : compareBytes a b = -1 ∨ compareBytes a b = 0 ∨ compareBytes a b = 1 := by
  rw [compare_ref]
  split
  · exact .inr (.inl rfl)
  · split
    · exact .inl rfl
    · exact .inr (.inr rfl)
theorem sizeUp_cases (p : Int) (n : Nat) (q : Int) (m : Nat) (c : Int) (hc : c = -1 ∨ c = 0 ∨ c = 1) : sizeUp p n q m c = -1 ∨ sizeUp p n q m c = 0 ∨ sizeUp p n q m c = 1 := by
  unfold sizeUp sgn
  repeat' split
  all_goals first | omega | simp_all

def cmpStr (s t : ByteArray) : Int := compareBytes s.data.toList t.data.toList
theorem cmpStr_cases (s t : ByteArray) : cmpStr s t = -1 ∨ cmpStr s t = 0 ∨ cmpStr s t = 1 := compareB_cases _ _
theorem cmpStr_neg (s t : ByteArray) : cmpStr t s = - cmpStr s t := compare_neg _ _

theorem wrap_gap (p q : Int) (h1 : -9223372036854775808 ≤ p) (h2 : q ≤ 9223372036854775807) (h : p ≤ q) : IntKind.u64.wrap (IntKind.u64.wrap q - IntKind.u64.wrap p) = q - p := by
  simp only [IntKind.wrap]
  simp [IntKind.signed, IntKind.bits]
  omega

set_option maxRecDepth 100000 in
set_option maxHeartbeats 1500000 in
theorem size_up (s t : ByteArray) (p q : Int) (n m : Nat) (w : World) (h1 : -9223372036854775808 ≤ p) (h2 : q ≤ 9223372036854775807) (h : p ≤ q) (hn : n ≤ 140737488355328) (hm : m ≤ 140737488355328) :
    Calls Tryd.prog 29 #[.string s, .int .i64 p, .int .i64 n, .string t, .int .i64 q, .int .i64 m] w fun e w' => e = .returned (.int .i64 (sizeUp p n q m (cmpStr s t))) ∧ w = w' := by
  have hng : ¬ q < p := by omega
  have hg := wrap_gap p q h1 h2 h
  have hg0 : 0 ≤ q - p := by omega
  have hS := Lib.hid (Tryd.strings_Compare s t w)
  obtain ⟨d, hd⟩ : ∃ d, q - p = d := ⟨_, rfl⟩
  by_cases hbig : 1099511627776 < d
  · have HE : Hid (sizeUp p n q m (cmpStr s t) = -1) := Lib.hid (by unfold sizeUp; rw [hd, if_pos hbig])
    rw [hd] at hg
    clear h hd hg0 hn hm
    go_enter Tryd.func29, Tryd.ntmps29
    go_wp2_with fail
    go_ret
    exact ⟨by rw [HE.out] <;> rfl, rfl⟩
  · have HC := Lib.hid (Tryd.cmp_Compare_int ((m : Int) - n) d w)
    have hdb : d ≤ 1099511627776 := by omega
    have hd0 : 0 ≤ d := by omega
    have he : sizeUp p n q m (cmpStr s t) = if compareInt ((m : Int) - n) d ≠ 0 then compareInt ((m : Int) - n) d else cmpStr s t := by
      unfold sizeUp
      rw [hd, if_neg hbig, compareInt_sgn]
    rw [hd] at hg
    obtain ⟨c, hc⟩ : ∃ c, compareInt ((m : Int) - n) d = c := ⟨_, rfl⟩
    rw [hc] at he HC
    have HE := Lib.hid he
    clear h hd hg0 he hc h1 h2
    by_cases hc0 : c = 0
    · subst hc0
      go_enter Tryd.func29, Tryd.ntmps29
      go_wp2_with fail
      refine HC.out.mono ?_
      rintro e w' ⟨rfl, rfl⟩
      go_wp2_with fail
      refine hS.out.mono ?_
      rintro e w' ⟨rfl, rfl⟩
      go_wp2_with fail
      go_ret
      exact ⟨by rw [HE.out, if_neg (by simp)]; rfl, rfl⟩
    · have hcb : (c != 0) = true := by simpa using hc0
      have HN := Lib.hid hc0
      clear hc0
      go_enter Tryd.func29, Tryd.ntmps29
      go_wp2_with fail
      refine HC.out.mono ?_
      rintro e w' ⟨rfl, rfl⟩
      go_wp2_with fail
      go_ret
      exact ⟨by rw [HE.out, if_pos HN.out] <;> rfl, rfl⟩

set_option maxRecDepth 100000 in
set_option maxHeartbeats 1500000 in
theorem size_any (s t : ByteArray) (p q : Int) (n m : Nat) (w : World) (h1 : -9223372036854775808 ≤ p) (h2 : q ≤ 9223372036854775807) (h3 : -9223372036854775808 ≤ q) (h4 : p ≤ 9223372036854775807) (hn : n ≤ 140737488355328) (hm : m ≤ 140737488355328) :
    Calls Tryd.prog 29 #[.string s, .int .i64 p, .int .i64 n, .string t, .int .i64 q, .int .i64 m] w fun e w' => e = .returned (.int .i64 (sizeP p n q m (cmpStr s t))) ∧ w = w' := by
  by_cases h : q < p
  · have HS := Lib.hid (size_up t s q p m n w h3 h4 (by omega) hm hn)
    have hz := sizeUp_cases q m p n (cmpStr t s) (cmpStr_cases t s)
    have HE : Hid (sizeP p n q m (cmpStr s t) = - sizeUp q m p n (cmpStr t s)) := Lib.hid (by unfold sizeP; rw [if_pos h, ← cmpStr_neg s t])
    obtain ⟨z, hzz⟩ : ∃ z, sizeUp q m p n (cmpStr t s) = z := ⟨_, rfl⟩
    rw [hzz] at HS hz HE
    clear hzz h1 h2 h3 h4 hn hm
    have hz1 : -1 ≤ z := by omega
    have hz2 : z ≤ 1 := by omega
    clear hz
    go_enter Tryd.func29, Tryd.ntmps29
    go_wp2_with fail
    refine HS.out.mono ?_
    rintro e w' ⟨rfl, rfl⟩
    go_wp2_with fail
    go_ret
    exact ⟨by rw [HE.out] <;> rfl, rfl⟩
  · have he : sizeP p n q m (cmpStr s t) = sizeUp p n q m (cmpStr s t) := by unfold sizeP; rw [if_neg h]
    rw [he]
    exact size_up s t p q n m w h1 h2 (by omega) hn hm

/-- is there a digit that is not 0? -/
def smB (s : ByteArray) : Bool := !((plainS s).data.toList.isEmpty)
theorem sgnS_signN (neg : Bool) (s : ByteArray) : sgnS neg (plainS s) = signN neg (smB s) := by
  unfold sgnS signN smB
  by_cases h : (plainS s).data.toList = []
  · rw [if_pos h, h]; rfl
  · have h' : (plainS s).data.toList.isEmpty = false := by simpa using h
    rw [if_neg h, h']; cases neg <;> rfl
def szP (a b : ByteArray) (p q : Int) : Int := sizeP p (leadL a.data.toList) q (leadL b.data.toList) (cmpStr (plainS a) (plainS b))
def bothB (a b : ByteArray) : Bool := fineB a && fineB b
/-- what decimal.Cmp answers -/
def cmpV (na : Bool) (a : ByteArray) (p : Int) (nb : Bool) (b : ByteArray) (q : Int) : Int :=
  if bothB a b = true then cmpP na (smB a) nb (smB b) (szP a b p q) else 0
theorem sizeP_cases (p : Int) (n : Nat) (q : Int) (m : Nat) (c : Int) (hc : c = -1 ∨ c = 0 ∨ c = 1) : sizeP p n q m c = -1 ∨ sizeP p n q m c = 0 ∨ sizeP p n q m c = 1 := by
  unfold sizeP
  split
  · have := sizeUp_cases q m p n (-c) (by omega); omega
  · exact sizeUp_cases p n q m c hc
theorem szP_cases (a b : ByteArray) (p q : Int) : szP a b p q = -1 ∨ szP a b p q = 0 ∨ szP a b p q = 1 := sizeP_cases _ _ _ _ _ (cmpStr_cases _ _)
theorem signN_cases (n s : Bool) : signN n s = -1 ∨ signN n s = 0 ∨ signN n s = 1 := by cases n <;> cases s <;> simp [signN]

theorem tup2 {a b : Int} {c d : Bool} (h : a = b) (h2 : c = d) : Ending.returned (.tuple #[.int .i64 a, .bool c]) = .returned (.tuple #[.int .i64 b, .bool d]) := by rw [h, h2]
/-- two decimal numbers as values lie in two new blocks -/
structure Two (w : World) (na nb : Bool) (a b : ByteArray) (p q : Int) (wx : World) : Prop where
  one : Blk wx w.heap.size 23 #[.bool na, .string a, .int .i64 p]
  two : Blk wx (w.heap.size + 1) 23 #[.bool nb, .string b, .int .i64 q]
  bel : Below w.heap.size w wx
def W2 (w : World) (na nb : Bool) (a b : ByteArray) (p q : Int) : World := (w.alloc (.cells #[.bool na, .string a, .int .i64 p] 23)).alloc (.cells #[.bool nb, .string b, .int .i64 q] 23)
theorem two_new (w : World) (na nb : Bool) (a b : ByteArray) (p q : Int) : Two w na nb a b p q (W2 w na nb a b p q) := by
  refine ⟨(Blk.new w _ _).alloc _, ?_, ((Below.refl _ _).alloc (Nat.le_refl _) _).alloc (by simp) _⟩
  have h := Blk.new (w.alloc (.cells #[.bool na, .string a, .int .i64 p] 23)) 23 #[.bool nb, .string b, .int .i64 q]
  rw [show (w.alloc (.cells #[.bool na, .string a, .int .i64 p] 23)).heap.size = w.heap.size + 1 by simp] at h
  exact h
theorem Two.below {w : World} {na nb : Bool} {a b : ByteArray} {p q : Int} {wx wy : World} (h : Two w na nb a b p q wx) (hb : Below wx.heap.size wx wy) : Two w na nb a b p q wy :=
  ⟨h.one.below hb h.one.lt, h.two.below hb h.two.lt, h.bel.trans (hb.mono (Nat.le_of_lt h.one.lt))⟩
theorem Two.drewN {w : World} {na nb : Bool} {a b : ByteArray} {p q : Int} {wx : World} (h : Two w na nb a b p q wx) (n : Nat) : Two w na nb a b p q (wx.drewN n) :=
  ⟨h.one.drewN n, h.two.drewN n, below_drewN' h.bel n⟩
theorem Two.cells {w : World} {na nb : Bool} {a b : ByteArray} {p q : Int} {wx : World} (h : Two w na nb a b p q wx) :
    wx.cell? ⟨w.heap.size, 0, none⟩ = some (.bool na) ∧ wx.cell? ⟨w.heap.size, 1, none⟩ = some (.string a) ∧ wx.cell? ⟨w.heap.size, 2, none⟩ = some (.int .i64 p) ∧
    wx.cell? ⟨w.heap.size + 1, 0, none⟩ = some (.bool nb) ∧ wx.cell? ⟨w.heap.size + 1, 1, none⟩ = some (.string b) ∧ wx.cell? ⟨w.heap.size + 1, 2, none⟩ = some (.int .i64 q) :=
  ⟨h.one.cell 0, h.one.cell 1, h.one.cell 2, h.two.cell 0, h.two.cell 1, h.two.cell 2⟩

set_option maxRecDepth 100000 in
set_option maxHeartbeats 3000000 in
theorem cmp_any (na nb : Bool) (a b : ByteArray) (p q : Int) (w : World) (h1 : -9223372036854775808 ≤ p) (h2 : q ≤ 9223372036854775807) (h3 : -9223372036854775808 ≤ q) (h4 : p ≤ 9223372036854775807) (hn : a.size ≤ 140737488355328) (hm : b.size ≤ 140737488355328) :
    Calls Tryd.prog 10 #[.agg #[.bool na, .string a, .int .i64 p], .agg #[.bool nb, .string b, .int .i64 q]] w fun e w' =>
      e = .returned (.tuple #[.int .i64 (cmpV na a p nb b q), .bool (bothB a b)]) ∧ Below w.heap.size w w' := by
  have HFA := Lib.hid (fun wx => fine_any na a p wx)
  have HFB := Lib.hid (fun wx => fine_any nb b q wx)
  have hla : leadL a.data.toList ≤ 140737488355328 := Nat.le_trans (lead_le _) (by rw [bytes_len]; exact hn)
  have hlb : leadL b.data.toList ≤ 140737488355328 := Nat.le_trans (lead_le _) (by rw [bytes_len]; exact hm)
  have HPA := Lib.hid (fun wx => plain_any a wx (by omega))
  have HPB := Lib.hid (fun wx => plain_any b wx (by omega))
  have HSA := Lib.hid (fun wx => sign_any na (plainS a) wx)
  have HSB := Lib.hid (fun wx => sign_any nb (plainS b) wx)
  have HZ := Lib.hid (fun wx => size_any (plainS a) (plainS b) p q (leadL a.data.toList) (leadL b.data.toList) wx h1 h2 h3 h4 hla hlb)
  rw [sgnS_signN] at HSA HSB
  have hzc := szP_cases a b p q
  change Hid (∀ wx, Calls Tryd.prog 29 #[.string (plainS a), .int .i64 p, .int .i64 (leadL a.data.toList : Nat), .string (plainS b), .int .i64 q, .int .i64 (leadL b.data.toList : Nat)] wx fun e w' => e = .returned (.int .i64 (szP a b p q)) ∧ wx = w') at HZ
  have HV : Hid (cmpV na a p nb b q = if (fineB a && fineB b) = true then (if signN na (smB a) ≠ signN nb (smB b) ∨ signN na (smB a) = 0 then sgn (signN na (smB a) - signN nb (smB b)) else signN na (smB a) * szP a b p q) else 0) := Lib.hid rfl
  have HW : Hid (bothB a b = (fineB a && fineB b)) := Lib.hid rfl
  have hx := signN_cases na (smB a)
  have hy := signN_cases nb (smB b)
  generalize signN na (smB a) = X at *
  generalize signN nb (smB b) = Y at *
  generalize szP a b p q = Z at *
  generalize plainS a = S at *
  generalize plainS b = T at *
  generalize leadL a.data.toList = n at *
  generalize leadL b.data.toList = m at *
  generalize fineB a = fa at *
  generalize fineB b = fb at *
  clear h1 h2 h3 h4 hn hm hla hlb
  have hz1 : -1 ≤ Z := by omega
  have hz2 : Z ≤ 1 := by omega
  clear hzc
  have T0 := two_new w na nb a b p q
  have HW0 : Hid (W2 w na nb a b p q = (w.alloc (.cells #[.bool na, .string a, .int .i64 p] 23)).alloc (.cells #[.bool nb, .string b, .int .i64 q] 23)) := Lib.hid rfl
  generalize W2 w na nb a b p q = W0 at *
  have HT0 := Lib.hid T0
  obtain ⟨c0, c1, c2, d0, d1, d2⟩ := T0.cells
  clear T0
  cases fa
  · have HV1 : Hid (cmpV na a p nb b q = 0) := Lib.hid (by rw [HV.out]; rfl)
    clear HV hx hy hz1 hz2
    go_enter Tryd.func10, Tryd.ntmps10
    go_wp2_with fail
    rw [← HW0.out]
    go_wp2_with fail
    refine (HFA.out _).mono ?_
    rintro e w1 ⟨rfl, hb1⟩
    have HT1 := Lib.hid (HT0.out.below hb1)
    clear hb1 c0 c1 c2 d0 d1 d2
    go_wp2_with fail
    go_ret2
    exact ⟨tup2 (by rw [HV1.out]) (by rw [HW.out]; rfl), HT1.out.bel⟩
  · cases fb
    · have HV1 : Hid (cmpV na a p nb b q = 0) := Lib.hid (by rw [HV.out]; rfl)
      clear HV hx hy hz1 hz2
      go_enter Tryd.func10, Tryd.ntmps10
      go_wp2_with fail
      rw [← HW0.out]
      go_wp2_with fail
      refine (HFA.out _).mono ?_
      rintro e w1 ⟨rfl, hb1⟩
      have HT1 := Lib.hid (HT0.out.below hb1)
      clear hb1 c0 c1 c2 d0 d1 d2
      obtain ⟨c0, c1, c2, d0, d1, d2⟩ := HT1.out.cells
      go_wp2_with fail
      refine (HFB.out _).mono ?_
      rintro e w2 ⟨rfl, hb2⟩
      have HT2 := Lib.hid (HT1.out.below hb2)
      clear hb2 c0 c1 c2 d0 d1 d2
      go_wp2_with fail
      go_ret2
      exact ⟨tup2 (by rw [HV1.out]) (by rw [HW.out]; rfl), HT2.out.bel⟩
    · have HV1 : Hid (cmpV na a p nb b q = if (X ≠ Y ∨ X = 0) then sgn (X - Y) else X * Z) := Lib.hid (by rw [HV.out]; rfl)
      have HC := Lib.hid (fun wx => Tryd.cmp_Compare_int X Y wx)
      clear HV
      rcases hx with rfl | rfl | rfl <;> rcases hy with rfl | rfl | rfl
      all_goals
        go_enter Tryd.func10, Tryd.ntmps10
        go_wp2_with fail
        rw [← HW0.out]
        go_wp2_with fail
        refine (HFA.out _).mono ?_
        rintro e w1 ⟨rfl, hb1⟩
        have HT1 := Lib.hid (HT0.out.below hb1)
        clear hb1 c0 c1 c2 d0 d1 d2
        obtain ⟨c0, c1, c2, d0, d1, d2⟩ := HT1.out.cells
        go_wp2_with fail
        refine (HFB.out _).mono ?_
        rintro e w2 ⟨rfl, hb2⟩
        have HT2 := Lib.hid (HT1.out.below hb2)
        clear hb2 c0 c1 c2 d0 d1 d2
        obtain ⟨c0, c1, c2, d0, d1, d2⟩ := HT2.out.cells
        go_wp2_with fail
        refine (HPA.out _).mono ?_
        rintro e w3 ⟨rfl, rfl⟩
        go_wp2_with fail
        refine (HPB.out _).mono ?_
        rintro e w4 ⟨rfl, rfl⟩
        go_wp2_with fail
        go_quiet ((go_at_call 27; first | (with_reducible exact quiet_same (HSA.out _)) | (with_reducible exact quiet_same (HSB.out _))))
        go_wp2_with fail
        first
          | ((with_reducible refine (HC.out _).mono ?_)
             rintro e w5 ⟨rfl, rfl⟩
             go_wp2_with fail
             go_ret2
             exact ⟨tup2 (by rw [HV1.out]; rfl) (by rw [HW.out]; rfl), (HT2.out.drewN _).bel⟩)
          | ((with_reducible refine (HZ.out _).mono ?_)
             rintro e w5 ⟨rfl, rfl⟩
             go_wp2_with fail
             go_ret2
             exact ⟨tup2 (by rw [HV1.out]; simp) (by rw [HW.out]; rfl), (HT2.out.drewN _).bel⟩)
end Go.Proofs.YtgckfilmhnapeaaDoor
