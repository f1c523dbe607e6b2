/- The walk of cruciblelaw16.JsonscanMakes. -/
import Derived.Test.YtjfeebbhkolmoaaDoorJl3
import Derived.Test.YtjfeebbhkolmoaaDoorWLits
namespace Go.Proofs.YtjfeebbhkolmoaaDoor.E
open Go.RowKit
set_option linter.unusedVariables false

theorem listS_size (a b : ByteArray) : (listS a b).size = a.size + b.size + 3 := by
  unfold listS sqO comS sqC
  simp only [ByteArray.size_append]
  show 1 + a.size + 1 + b.size + 1 = _
  omega
theorem pairS_size (k a b : ByteArray) : (pairS k a b).size = 2 * k.size + a.size + b.size + 7 := by
  unfold pairS cuO colS comS colW cuC
  simp only [ByteArray.size_append]
  show 1 + k.size + 1 + a.size + 1 + k.size + 3 + b.size + 1 = _
  omega
theorem oneS_size (a : ByteArray) : (oneS a).size = a.size + 1 := by
  unfold oneS sqO
  rw [ByteArray.size_append]
  show 1 + a.size = _
  omega

set_option maxRecDepth 100000 in
set_option maxHeartbeats 3000000 in
theorem wmakes_none (a : ByteArray) (b k : ByteArray) (ha : a.size ≤ 1048576) (hb : b.size ≤ 1048576) (hk : k.size ≤ 1048576) (hbig : 1048576 < a.size + b.size + k.size) (ea : Nat → Addr) (w : World) (he : Errs w ea) (hsh : Shorts w) :
    Calls Tryd.prog 9 #[.string a, .string b, .string k] w fun e w' => e = .returned (.bool true) ∧ Below w.heap.size w w' := by
  have HLV := Lib.hid (lives_any ea w he)
  have h1 : (a.size : Int) ≤ 1048576 := by omega
  have h2 : (b.size : Int) ≤ 1048576 := by omega
  have h3 : (k.size : Int) ≤ 1048576 := by omega
  have h4 : (1048576 : Int) < (a.size : Int) + (b.size : Int) + (k.size : Int) := by omega
  clear he hsh ha hb hk hbig
  go_enter Tryd.func9, Tryd.ntmps9
  go_wp2_with fail
  refine HLV.out.mono ?_
  rintro e w1 ⟨rfl, hb1⟩
  have HB1 := Lib.hid hb1
  clear hb1
  go_wp2_with fail
  go_ret
  exact ⟨rfl, HB1.out⟩
/-- what Quote gives -/
theorem quote_any (s : ByteArray) (hs : s.size ≤ 1048576) (w : World) (hsh : Shorts w) :
    Calls Tryd.prog 25 #[.string s] w fun e w' => e = .returned (.tuple #[.string (QuoteR s).1, .bool (QuoteR s).2]) ∧ Below w.heap.size w w' := by
  unfold QuoteR
  by_cases h : isTextB s = true
  · rw [if_pos h]; exact quote_yes s hs h w hsh
  · rw [if_neg h]; exact quote_no s hs (by simpa using h) w
theorem quote_len (s : ByteArray) : (QuoteR s).1.size ≤ 6 * s.size + 2 := by
  unfold QuoteR
  split
  · show (litB s).size ≤ _
    unfold litB
    rw [strOf_size, List.length_append]
    have := outB_len s s.size
    simp
    omega
  · exact Nat.zero_le _
theorem code_of (v : Value) (c lo : Nat) (n : Int) (hc : okCode c) (h0 : c ≠ 0) (ea : Nat → Addr) (w : World) (he : Errs w ea) (hv : ErrAt w ea lo v c n) :
    Calls Tryd.prog 26 #[v] w fun e w' => e = .returned (.int .i64 (c : Nat)) ∧ Below w.heap.size w w' := by
  obtain ⟨gf, -, rfl, hff⟩ := err_some h0 hv
  have hk := okc_lt hc h0
  refine (code_fault gf n ea w (c - 1) hk he hff).mono ?_
  rintro e w' ⟨rfl, hb⟩
  refine ⟨?_, hb⟩
  rw [show ((c - 1 : Nat) : Int) + 1 = ((c : Nat) : Int) by omega]
theorem at_of (v : Value) (c lo : Nat) (n : Int) (hc : okCode c) (h0 : c ≠ 0) (ea : Nat → Addr) (w : World) (he : Errs w ea) (hv : ErrAt w ea lo v c n) :
    Calls Tryd.prog 22 #[v] w fun e w' => e = .returned (.tuple #[.int .i64 n, .bool true]) ∧ Below w.heap.size w w' := by
  obtain ⟨gf, -, rfl, hff⟩ := err_some h0 hv
  exact at_fault gf n ea w (c - 1) (okc_lt hc h0) he hff

set_option maxRecDepth 100000 in
set_option maxHeartbeats 3000000 in
theorem wmakes_deep (a : ByteArray) (b k : ByteArray) (hs : a.size + b.size + k.size ≤ 1048576) (ea : Nat → Addr) (w : World) (he : Errs w ea) (hsh : Shorts w) (ha : Whole a) (hb : Whole b) (hn : ¬ (NoOver 1 Sc0 (bnat a) ∧ NoOver 1 Sc0 (bnat b))) :
    Calls Tryd.prog 9 #[.string a, .string b, .string k] w fun e w' => e = .returned (.bool true) ∧ Below w.heap.size w w' := by
  have HLV := Lib.hid (lives_any ea w he)
  have HE := Lib.hid he
  have HRA := Lib.hid (fun wx (hb : Below w.heap.size w wx) => read_any wx a ea (he.below hb) (by omega))
  have HRB := Lib.hid (fun wx (hb : Below w.heap.size w wx) => read_any wx b ea (he.below hb) (by omega))
  have HQ := Lib.hid (fun wx (hb : Below w.heap.size w wx) => quote_any k (by omega) wx (hsh.below hb))
  have hql := quote_len k
  have HRL := Lib.hid (fun wx (hb : Below w.heap.size w wx) => read_any wx (listS a b) ea (he.below hb) (by rw [listS_size]; omega))
  have h1 : (a.size : Int) ≤ 1048576 := by omega
  have h2 : (b.size : Int) ≤ 1048576 := by omega
  have h3 : (k.size : Int) ≤ 1048576 := by omega
  have h4 : ¬ (1048576 : Int) < (a.size : Int) + (b.size : Int) + (k.size : Int) := by omega
  have hl := (law_list a b ha hb).2 hn
  unfold RdPost at HRA HRB HRL
  rw [show pclose (prd a) = 0 from ha] at HRA
  rw [show pclose (prd b) = 0 from hb] at HRB
  rw [hl] at HRL
  clear he hsh ha hb hn hl
  generalize hQ : QuoteR k = Q at *
  clear hQ
  obtain ⟨q, ok⟩ := Q
  simp only [] at hql HQ 
  have h5 : (q.size : Int) ≤ 6291458 := by omega
  clear hs hql
  go_enter Tryd.func9, Tryd.ntmps9
  go_wp2_with fail
  refine HLV.out.mono ?_
  rintro e w1 ⟨rfl, hb1⟩
  have HB1 := Lib.hid hb1
  clear hb1
  go_wp2_with fail
  refine (HRA.out w1 HB1.out).mono ?_
  rintro e w2 ⟨va, rfl, hva, hb2⟩
  obtain rfl := err_nil hva
  have HB2 : Hid (Below w.heap.size w w2) := Lib.hid (HB1.out.trans (hb2.mono HB1.out.size))
  clear hb2 hva
  go_wp2_with fail
  refine (HRB.out w2 HB2.out).mono ?_
  rintro e w3 ⟨vb, rfl, hvb, hb3⟩
  obtain rfl := err_nil hvb
  have HB3 : Hid (Below w.heap.size w w3) := Lib.hid (HB2.out.trans (hb3.mono HB2.out.size))
  skip
  clear hb3 hvb
  go_wp2_with fail
  refine (HQ.out w3 HB3.out).mono ?_
  rintro e w4 ⟨rfl, hb4⟩
  have HB4 : Hid (Below w.heap.size w w4) := Lib.hid (HB3.out.trans (hb4.mono HB3.out.size))
  skip
  clear hb4
  go_wp2_with fail
  refine (HRL.out w4 HB4.out).mono ?_
  rintro e w5 ⟨vl, rfl, hvl, hb5⟩
  have HVL := Lib.hid hvl
  obtain ⟨gf, -, rfl, hff⟩ := err_some (by decide) hvl
  have HB5 : Hid (Below w.heap.size w w5) := Lib.hid (HB4.out.trans (hb5.mono HB4.out.size))
  skip
  have HFF := Lib.hid hff
  clear hb5 hvl hff
  go_wp2_with fail
  have HC := Lib.hid (code_fault gf _ ea w5 4 (by decide) (HE.out.below HB5.out) HFF.out)
  refine HC.out.mono ?_
  rintro e w6 ⟨rfl, hb6⟩
  have HB6 : Hid (Below w.heap.size w w6) := Lib.hid (HB5.out.trans (hb6.mono HB5.out.size))
  clear hb6
  go_wp2_with fail
  go_ret
  exact ⟨by simp, HB6.out⟩
set_option maxRecDepth 100000 in
set_option maxHeartbeats 3000000 in
theorem wmakes_pair (a : ByteArray) (b k : ByteArray) (hs : a.size + b.size + k.size ≤ 1048576) (ea : Nat → Addr) (w : World) (he : Errs w ea) (hsh : Shorts w) (ha : Whole a) (hb : Whole b) (hna : NoOver 1 Sc0 (bnat a)) (hnb : NoOver 1 Sc0 (bnat b)) :
    Calls Tryd.prog 9 #[.string a, .string b, .string k] w fun e w' => e = .returned (.bool true) ∧ Below w.heap.size w w' := by
  have HLV := Lib.hid (lives_any ea w he)
  have HE := Lib.hid he
  have HRA := Lib.hid (fun wx (hb : Below w.heap.size w wx) => read_any wx a ea (he.below hb) (by omega))
  have HRB := Lib.hid (fun wx (hb : Below w.heap.size w wx) => read_any wx b ea (he.below hb) (by omega))
  have HQ := Lib.hid (fun wx (hb : Below w.heap.size w wx) => quote_any k (by omega) wx (hsh.below hb))
  have hql := quote_len k
  have HRL := Lib.hid (fun wx (hb : Below w.heap.size w wx) => read_any wx (listS a b) ea (he.below hb) (by rw [listS_size]; omega))
  have h1 : (a.size : Int) ≤ 1048576 := by omega
  have h2 : (b.size : Int) ≤ 1048576 := by omega
  have h3 : (k.size : Int) ≤ 1048576 := by omega
  have h4 : ¬ (1048576 : Int) < (a.size : Int) + (b.size : Int) + (k.size : Int) := by omega
  have hl := (law_list a b ha hb).1 ⟨hna, hnb⟩
  have HRP := Lib.hid (fun wx (hb : Below w.heap.size w wx) => read_any wx (pairS (QuoteR k).1 a b) ea (he.below hb) (by rw [pairS_size]; omega))
  unfold RdPost at HRP
  have hpr : pclose (prd (pairS (QuoteR k).1 a b)) = if (QuoteR k).2 = true then 0 else 3 := by
    unfold QuoteR
    by_cases h : isTextB k = true
    · rw [if_pos h, if_pos rfl]
      exact law_pair (litB k) a b _ (back_law k h) ha hb hna hnb
    · rw [if_neg h, if_neg (by decide)]
      exact law_nokey a b
  rw [hpr] at HRP
  unfold RdPost at HRA HRB HRL
  rw [show pclose (prd a) = 0 from ha] at HRA
  rw [show pclose (prd b) = 0 from hb] at HRB
  rw [hl] at HRL
  clear he hsh ha hb hna hnb hl hpr
  generalize hQ : QuoteR k = Q at *
  clear hQ
  obtain ⟨q, ok⟩ := Q
  simp only [] at hql HQ HRP
  have h5 : (q.size : Int) ≤ 6291458 := by omega
  clear hs hql
  go_enter Tryd.func9, Tryd.ntmps9
  go_wp2_with fail
  refine HLV.out.mono ?_
  rintro e w1 ⟨rfl, hb1⟩
  have HB1 := Lib.hid hb1
  clear hb1
  go_wp2_with fail
  refine (HRA.out w1 HB1.out).mono ?_
  rintro e w2 ⟨va, rfl, hva, hb2⟩
  obtain rfl := err_nil hva
  have HB2 : Hid (Below w.heap.size w w2) := Lib.hid (HB1.out.trans (hb2.mono HB1.out.size))
  clear hb2 hva
  go_wp2_with fail
  refine (HRB.out w2 HB2.out).mono ?_
  rintro e w3 ⟨vb, rfl, hvb, hb3⟩
  obtain rfl := err_nil hvb
  have HB3 : Hid (Below w.heap.size w w3) := Lib.hid (HB2.out.trans (hb3.mono HB2.out.size))
  skip
  clear hb3 hvb
  go_wp2_with fail
  refine (HQ.out w3 HB3.out).mono ?_
  rintro e w4 ⟨rfl, hb4⟩
  have HB4 : Hid (Below w.heap.size w w4) := Lib.hid (HB3.out.trans (hb4.mono HB3.out.size))
  skip
  clear hb4
  go_wp2_with fail
  refine (HRL.out w4 HB4.out).mono ?_
  rintro e w5 ⟨vl, rfl, hvl, hb5⟩
  obtain rfl := err_nil hvl
  have HB5 : Hid (Below w.heap.size w w5) := Lib.hid (HB4.out.trans (hb5.mono HB4.out.size))
  skip
  clear hb5 hvl
  go_wp2_with fail
  refine (HRP.out w5 HB5.out).mono ?_
  rintro e w6 ⟨vp, rfl, hvp, hb6⟩
  have HB6 : Hid (Below w.heap.size w w6) := Lib.hid (HB5.out.trans (hb6.mono HB5.out.size))
  clear hb6
  cases ok
  · rw [if_neg (by decide)] at hvp
    obtain ⟨gf, -, rfl, -⟩ := err_some (by decide) hvp
    go_wp2_with fail
    go_ret
    exact ⟨by simp, HB6.out⟩
  · rw [if_pos rfl] at hvp
    obtain rfl := err_nil hvp
    go_wp2_with fail
    go_ret
    exact ⟨by simp, HB6.out⟩
set_option maxRecDepth 100000 in
set_option maxHeartbeats 3000000 in
theorem wmakes_c (a : ByteArray) (b k : ByteArray) (hs : a.size + b.size + k.size ≤ 1048576) (ea : Nat → Addr) (w : World) (he : Errs w ea) (hsh : Shorts w) (ha : Whole a) (hb : ¬ Whole b) :
    Calls Tryd.prog 9 #[.string a, .string b, .string k] w fun e w' => e = .returned (.bool true) ∧ Below w.heap.size w w' := by
  have HLV := Lib.hid (lives_any ea w he)
  have HE := Lib.hid he
  have HRA := Lib.hid (fun wx (hb : Below w.heap.size w wx) => read_any wx a ea (he.below hb) (by omega))
  have HRB := Lib.hid (fun wx (hb : Below w.heap.size w wx) => read_any wx b ea (he.below hb) (by omega))
  have HQ := Lib.hid (fun wx (hb : Below w.heap.size w wx) => quote_any k (by omega) wx (hsh.below hb))
  have hql := quote_len k
  have HRL := Lib.hid (fun wx (hb : Below w.heap.size w wx) => read_any wx (listS a b) ea (he.below hb) (by rw [listS_size]; omega))
  have h1 : (a.size : Int) ≤ 1048576 := by omega
  have h2 : (b.size : Int) ≤ 1048576 := by omega
  have h3 : (k.size : Int) ≤ 1048576 := by omega
  have h4 : ¬ (1048576 : Int) < (a.size : Int) + (b.size : Int) + (k.size : Int) := by omega

  unfold RdPost at HRA HRB HRL
  rw [show pclose (prd a) = 0 from ha] at HRA
  have HNB : Hid (pclose (prd b) ≠ 0) := Lib.hid hb
  clear he hsh ha hb
  generalize hQ : QuoteR k = Q at *
  clear hQ
  obtain ⟨q, ok⟩ := Q
  simp only [] at hql HQ 
  have h5 : (q.size : Int) ≤ 6291458 := by omega
  clear hs hql
  go_enter Tryd.func9, Tryd.ntmps9
  go_wp2_with fail
  refine HLV.out.mono ?_
  rintro e w1 ⟨rfl, hb1⟩
  have HB1 := Lib.hid hb1
  clear hb1
  go_wp2_with fail
  refine (HRA.out w1 HB1.out).mono ?_
  rintro e w2 ⟨va, rfl, hva, hb2⟩
  obtain rfl := err_nil hva
  have HB2 : Hid (Below w.heap.size w w2) := Lib.hid (HB1.out.trans (hb2.mono HB1.out.size))
  clear hb2 hva
  go_wp2_with fail
  refine (HRB.out w2 HB2.out).mono ?_
  rintro e w3 ⟨vb, rfl, hvb, hb3⟩
  obtain ⟨gf, -, rfl, -⟩ := err_some HNB.out hvb
  have HB3 : Hid (Below w.heap.size w w3) := Lib.hid (HB2.out.trans (hb3.mono HB2.out.size))
  skip
  clear hb3 hvb
  go_wp2_with fail
  refine (HQ.out w3 HB3.out).mono ?_
  rintro e w4 ⟨rfl, hb4⟩
  have HB4 : Hid (Below w.heap.size w w4) := Lib.hid (HB3.out.trans (hb4.mono HB3.out.size))
  skip
  clear hb4
  go_wp2_with fail
  refine (HRL.out w4 HB4.out).mono ?_
  rintro e w5 ⟨vl, rfl, hvl, hb5⟩
  clear hvl
  have HB5 : Hid (Below w.heap.size w w5) := Lib.hid (HB4.out.trans (hb5.mono HB4.out.size))
  skip
  clear hb5
  go_wp2_with fail
  refine (at_nil w5).mono ?_
  rintro e w6 ⟨rfl, hb6⟩
  have HB6 : Hid (Below w.heap.size w w6) := Lib.hid (HB5.out.trans (hb6.mono HB5.out.size))
  clear hb6
  go_wp2_with fail
  go_ret
  exact ⟨rfl, HB6.out⟩
set_option maxRecDepth 100000 in
set_option maxHeartbeats 3000000 in
theorem wmakes_b1 (a : ByteArray) (b k : ByteArray) (hs : a.size + b.size + k.size ≤ 1048576) (ea : Nat → Addr) (w : World) (he : Errs w ea) (hsh : Shorts w) (ha : ¬ Whole a) (hn : ¬ (prd a).size < (a.size : Int)) :
    Calls Tryd.prog 9 #[.string a, .string b, .string k] w fun e w' => e = .returned (.bool true) ∧ Below w.heap.size w w' := by
  have HLV := Lib.hid (lives_any ea w he)
  have HE := Lib.hid he
  have HRA := Lib.hid (fun wx (hb : Below w.heap.size w wx) => read_any wx a ea (he.below hb) (by omega))
  have HRB := Lib.hid (fun wx (hb : Below w.heap.size w wx) => read_any wx b ea (he.below hb) (by omega))
  have HQ := Lib.hid (fun wx (hb : Below w.heap.size w wx) => quote_any k (by omega) wx (hsh.below hb))
  have hql := quote_len k
  have HRL := Lib.hid (fun wx (hb : Below w.heap.size w wx) => read_any wx (listS a b) ea (he.below hb) (by rw [listS_size]; omega))
  have h1 : (a.size : Int) ≤ 1048576 := by omega
  have h2 : (b.size : Int) ≤ 1048576 := by omega
  have h3 : (k.size : Int) ≤ 1048576 := by omega
  have h4 : ¬ (1048576 : Int) < (a.size : Int) + (b.size : Int) + (k.size : Int) := by omega
  have HNA : Hid (pclose (prd a) ≠ 0) := Lib.hid ha
  have HOK : Hid (okCode (pclose (prd a))) := Lib.hid (pclose_ok _ (prd_good a).1)

  unfold RdPost at HRA HRB HRL
  clear ha
  generalize prd a = pa at *
  obtain ⟨n, hpn⟩ : ∃ n, pa.size = n := ⟨_, rfl⟩
  obtain ⟨cd, hcd⟩ : ∃ cd, pclose pa = cd := ⟨_, rfl⟩
  simp only [hpn, hcd] at HRA HNA HOK hn
  clear hpn hcd
  clear he hsh 
  generalize hQ : QuoteR k = Q at *
  clear hQ
  obtain ⟨q, ok⟩ := Q
  simp only [] at hql HQ 
  have h5 : (q.size : Int) ≤ 6291458 := by omega
  clear hs hql
  go_enter Tryd.func9, Tryd.ntmps9
  go_wp2_with fail
  refine HLV.out.mono ?_
  rintro e w1 ⟨rfl, hb1⟩
  have HB1 := Lib.hid hb1
  clear hb1
  go_wp2_with fail
  refine (HRA.out w1 HB1.out).mono ?_
  rintro e w2 ⟨va, rfl, hva, hb2⟩
  have VA2 := Lib.hid hva
  obtain ⟨ga, -, hvae, -⟩ := err_some HNA.out hva
  have HB2 : Hid (Below w.heap.size w w2) := Lib.hid (HB1.out.trans (hb2.mono HB1.out.size))
  clear hb2 hva
  subst hvae
  go_wp2_with fail
  refine (HRB.out w2 HB2.out).mono ?_
  rintro e w3 ⟨vb, rfl, hvb, hb3⟩
  clear hvb
  have HB3 : Hid (Below w.heap.size w w3) := Lib.hid (HB2.out.trans (hb3.mono HB2.out.size))
  have VA3 := Lib.hid (VA2.out.below hb3)
  clear hb3
  go_wp2_with fail
  refine (HQ.out w3 HB3.out).mono ?_
  rintro e w4 ⟨rfl, hb4⟩
  have HB4 : Hid (Below w.heap.size w w4) := Lib.hid (HB3.out.trans (hb4.mono HB3.out.size))
  have VA4 := Lib.hid (VA3.out.below hb4)
  clear hb4
  go_wp2_with fail
  refine (HRL.out w4 HB4.out).mono ?_
  rintro e w5 ⟨vl, rfl, hvl, hb5⟩
  clear hvl
  have HB5 : Hid (Below w.heap.size w w5) := Lib.hid (HB4.out.trans (hb5.mono HB4.out.size))
  have VA5 := Lib.hid (VA4.out.below hb5)
  clear hb5
  go_wp2_with fail
  refine (at_of _ _ _ _ HOK.out HNA.out ea w5 (HE.out.below HB5.out) VA5.out).mono ?_
  rintro e w6 ⟨rfl, hb6⟩
  have HB6 : Hid (Below w.heap.size w w6) := Lib.hid (HB5.out.trans (hb6.mono HB5.out.size))
  have VA6 := Lib.hid (VA5.out.below hb6)
  clear hb6
  go_wp2_with fail
  go_ret
  exact ⟨rfl, HB6.out⟩
set_option maxRecDepth 100000 in
set_option maxHeartbeats 3000000 in
theorem wmakes_b2 (a : ByteArray) (b k : ByteArray) (hs : a.size + b.size + k.size ≤ 1048576) (ea : Nat → Addr) (w : World) (he : Errs w ea) (hsh : Shorts w) (ha : ¬ Whole a) (hn : (prd a).size < (a.size : Int)) (hc : ((pclose (prd a) : Nat) : Int) ≠ 3) :
    Calls Tryd.prog 9 #[.string a, .string b, .string k] w fun e w' => e = .returned (.bool true) ∧ Below w.heap.size w w' := by
  have HLV := Lib.hid (lives_any ea w he)
  have HE := Lib.hid he
  have HRA := Lib.hid (fun wx (hb : Below w.heap.size w wx) => read_any wx a ea (he.below hb) (by omega))
  have HRB := Lib.hid (fun wx (hb : Below w.heap.size w wx) => read_any wx b ea (he.below hb) (by omega))
  have HQ := Lib.hid (fun wx (hb : Below w.heap.size w wx) => quote_any k (by omega) wx (hsh.below hb))
  have hql := quote_len k
  have HRL := Lib.hid (fun wx (hb : Below w.heap.size w wx) => read_any wx (listS a b) ea (he.below hb) (by rw [listS_size]; omega))
  have h1 : (a.size : Int) ≤ 1048576 := by omega
  have h2 : (b.size : Int) ≤ 1048576 := by omega
  have h3 : (k.size : Int) ≤ 1048576 := by omega
  have h4 : ¬ (1048576 : Int) < (a.size : Int) + (b.size : Int) + (k.size : Int) := by omega
  have HNA : Hid (pclose (prd a) ≠ 0) := Lib.hid ha
  have HOK : Hid (okCode (pclose (prd a))) := Lib.hid (pclose_ok _ (prd_good a).1)

  unfold RdPost at HRA HRB HRL
  clear ha
  generalize prd a = pa at *
  obtain ⟨n, hpn⟩ : ∃ n, pa.size = n := ⟨_, rfl⟩
  obtain ⟨cd, hcd⟩ : ∃ cd, pclose pa = cd := ⟨_, rfl⟩
  simp only [hpn, hcd] at HRA HNA HOK hn hc
  clear hpn hcd
  clear he hsh 
  generalize hQ : QuoteR k = Q at *
  clear hQ
  obtain ⟨q, ok⟩ := Q
  simp only [] at hql HQ 
  have h5 : (q.size : Int) ≤ 6291458 := by omega
  clear hs hql
  go_enter Tryd.func9, Tryd.ntmps9
  go_wp2_with fail
  refine HLV.out.mono ?_
  rintro e w1 ⟨rfl, hb1⟩
  have HB1 := Lib.hid hb1
  clear hb1
  go_wp2_with fail
  refine (HRA.out w1 HB1.out).mono ?_
  rintro e w2 ⟨va, rfl, hva, hb2⟩
  have VA2 := Lib.hid hva
  obtain ⟨ga, -, hvae, -⟩ := err_some HNA.out hva
  have HB2 : Hid (Below w.heap.size w w2) := Lib.hid (HB1.out.trans (hb2.mono HB1.out.size))
  clear hb2 hva
  subst hvae
  go_wp2_with fail
  refine (HRB.out w2 HB2.out).mono ?_
  rintro e w3 ⟨vb, rfl, hvb, hb3⟩
  clear hvb
  have HB3 : Hid (Below w.heap.size w w3) := Lib.hid (HB2.out.trans (hb3.mono HB2.out.size))
  have VA3 := Lib.hid (VA2.out.below hb3)
  clear hb3
  go_wp2_with fail
  refine (HQ.out w3 HB3.out).mono ?_
  rintro e w4 ⟨rfl, hb4⟩
  have HB4 : Hid (Below w.heap.size w w4) := Lib.hid (HB3.out.trans (hb4.mono HB3.out.size))
  have VA4 := Lib.hid (VA3.out.below hb4)
  clear hb4
  go_wp2_with fail
  refine (HRL.out w4 HB4.out).mono ?_
  rintro e w5 ⟨vl, rfl, hvl, hb5⟩
  clear hvl
  have HB5 : Hid (Below w.heap.size w w5) := Lib.hid (HB4.out.trans (hb5.mono HB4.out.size))
  have VA5 := Lib.hid (VA4.out.below hb5)
  clear hb5
  go_wp2_with fail
  refine (at_of _ _ _ _ HOK.out HNA.out ea w5 (HE.out.below HB5.out) VA5.out).mono ?_
  rintro e w6 ⟨rfl, hb6⟩
  have HB6 : Hid (Below w.heap.size w w6) := Lib.hid (HB5.out.trans (hb6.mono HB5.out.size))
  have VA6 := Lib.hid (VA5.out.below hb6)
  clear hb6
  go_wp2_with fail
  refine (code_of _ _ _ _ HOK.out HNA.out ea w6 (HE.out.below HB6.out) VA6.out).mono ?_
  rintro e w7 ⟨rfl, hb7⟩
  have HB7 : Hid (Below w.heap.size w w7) := Lib.hid (HB6.out.trans (hb7.mono HB6.out.size))
  clear hb7
  have hq : ((cd : Int) == 3) = false := eqF hc
  clear hc
  go_wp2_with fail
  go_ret
  exact ⟨rfl, HB7.out⟩
set_option maxRecDepth 100000 in
set_option maxHeartbeats 3000000 in
theorem wmakes_b3 (a : ByteArray) (b k : ByteArray) (hs : a.size + b.size + k.size ≤ 1048576) (ea : Nat → Addr) (w : World) (he : Errs w ea) (hsh : Shorts w) (ha : ¬ Whole a) (hn : (prd a).size < (a.size : Int)) (hc : ((pclose (prd a) : Nat) : Int) = 3) (h5 : pclose (prd (oneS a)) = 5) :
    Calls Tryd.prog 9 #[.string a, .string b, .string k] w fun e w' => e = .returned (.bool true) ∧ Below w.heap.size w w' := by
  have HLV := Lib.hid (lives_any ea w he)
  have HE := Lib.hid he
  have HRA := Lib.hid (fun wx (hb : Below w.heap.size w wx) => read_any wx a ea (he.below hb) (by omega))
  have HRB := Lib.hid (fun wx (hb : Below w.heap.size w wx) => read_any wx b ea (he.below hb) (by omega))
  have HQ := Lib.hid (fun wx (hb : Below w.heap.size w wx) => quote_any k (by omega) wx (hsh.below hb))
  have hql := quote_len k
  have HRL := Lib.hid (fun wx (hb : Below w.heap.size w wx) => read_any wx (listS a b) ea (he.below hb) (by rw [listS_size]; omega))
  have h1 : (a.size : Int) ≤ 1048576 := by omega
  have h2 : (b.size : Int) ≤ 1048576 := by omega
  have h3 : (k.size : Int) ≤ 1048576 := by omega
  have h4 : ¬ (1048576 : Int) < (a.size : Int) + (b.size : Int) + (k.size : Int) := by omega
  have HNA : Hid (pclose (prd a) ≠ 0) := Lib.hid ha
  have HOK : Hid (okCode (pclose (prd a))) := Lib.hid (pclose_ok _ (prd_good a).1)
  have HRO := Lib.hid (fun wx (hb : Below w.heap.size w wx) => read_any wx (oneS a) ea (he.below hb) (by rw [oneS_size]; omega))
  unfold RdPost at HRO
  have hz0 := (prd_size a).1
  rw [h5] at HRO
  clear h5
  unfold RdPost at HRA HRB HRL
  clear ha
  generalize prd a = pa at *
  obtain ⟨n, hpn⟩ : ∃ n, pa.size = n := ⟨_, rfl⟩
  obtain ⟨cd, hcd⟩ : ∃ cd, pclose pa = cd := ⟨_, rfl⟩
  simp only [hpn, hcd] at HRA HNA HOK hn hc hz0
  clear hpn hcd
  clear he hsh 
  generalize hQ : QuoteR k = Q at *
  clear hQ
  obtain ⟨q, ok⟩ := Q
  simp only [] at hql HQ 
  have h5 : (q.size : Int) ≤ 6291458 := by omega
  clear hs hql
  go_enter Tryd.func9, Tryd.ntmps9
  go_wp2_with fail
  refine HLV.out.mono ?_
  rintro e w1 ⟨rfl, hb1⟩
  have HB1 := Lib.hid hb1
  clear hb1
  go_wp2_with fail
  refine (HRA.out w1 HB1.out).mono ?_
  rintro e w2 ⟨va, rfl, hva, hb2⟩
  have VA2 := Lib.hid hva
  obtain ⟨ga, -, hvae, -⟩ := err_some HNA.out hva
  have HB2 : Hid (Below w.heap.size w w2) := Lib.hid (HB1.out.trans (hb2.mono HB1.out.size))
  clear hb2 hva
  subst hvae
  go_wp2_with fail
  refine (HRB.out w2 HB2.out).mono ?_
  rintro e w3 ⟨vb, rfl, hvb, hb3⟩
  clear hvb
  have HB3 : Hid (Below w.heap.size w w3) := Lib.hid (HB2.out.trans (hb3.mono HB2.out.size))
  have VA3 := Lib.hid (VA2.out.below hb3)
  clear hb3
  go_wp2_with fail
  refine (HQ.out w3 HB3.out).mono ?_
  rintro e w4 ⟨rfl, hb4⟩
  have HB4 : Hid (Below w.heap.size w w4) := Lib.hid (HB3.out.trans (hb4.mono HB3.out.size))
  have VA4 := Lib.hid (VA3.out.below hb4)
  clear hb4
  go_wp2_with fail
  refine (HRL.out w4 HB4.out).mono ?_
  rintro e w5 ⟨vl, rfl, hvl, hb5⟩
  clear hvl
  have HB5 : Hid (Below w.heap.size w w5) := Lib.hid (HB4.out.trans (hb5.mono HB4.out.size))
  have VA5 := Lib.hid (VA4.out.below hb5)
  clear hb5
  go_wp2_with fail
  refine (at_of _ _ _ _ HOK.out HNA.out ea w5 (HE.out.below HB5.out) VA5.out).mono ?_
  rintro e w6 ⟨rfl, hb6⟩
  have HB6 : Hid (Below w.heap.size w w6) := Lib.hid (HB5.out.trans (hb6.mono HB5.out.size))
  have VA6 := Lib.hid (VA5.out.below hb6)
  clear hb6
  go_wp2_with fail
  refine (code_of _ _ _ _ HOK.out HNA.out ea w6 (HE.out.below HB6.out) VA6.out).mono ?_
  rintro e w7 ⟨rfl, hb7⟩
  have HB7 : Hid (Below w.heap.size w w7) := Lib.hid (HB6.out.trans (hb7.mono HB6.out.size))
  clear hb7
  rw [hc]
  go_wp2_with fail
  refine (HRO.out w7 HB7.out).mono ?_
  rintro e w8 ⟨vo, rfl, hvo, hb8⟩
  have HB8 : Hid (Below w.heap.size w w8) := Lib.hid (HB7.out.trans (hb8.mono HB7.out.size))
  clear hb8
  obtain ⟨gf, -, rfl, hff⟩ := err_some (by decide) hvo
  have HFF := Lib.hid hff
  clear hff hvo
  go_wp2_with fail
  refine (code_fault gf _ ea w8 4 (by decide) (HE.out.below HB8.out) HFF.out).mono ?_
  rintro e w9 ⟨rfl, hb9⟩
  have HB9 : Hid (Below w.heap.size w w9) := Lib.hid (HB8.out.trans (hb9.mono HB8.out.size))
  clear hb9
  go_wp2_with fail
  go_ret
  exact ⟨by simp, HB9.out⟩
set_option maxRecDepth 100000 in
set_option maxHeartbeats 3000000 in
theorem wmakes_b4 (a : ByteArray) (b k : ByteArray) (hs : a.size + b.size + k.size ≤ 1048576) (ea : Nat → Addr) (w : World) (he : Errs w ea) (hsh : Shorts w) (ha : ¬ Whole a) (hn : (prd a).size < (a.size : Int)) (hc : ((pclose (prd a) : Nat) : Int) = 3) (h0 : pclose (prd (oneS a)) = 0) (hge : (prd a).size + 1 ≤ (prd (oneS a)).size) :
    Calls Tryd.prog 9 #[.string a, .string b, .string k] w fun e w' => e = .returned (.bool true) ∧ Below w.heap.size w w' := by
  have HLV := Lib.hid (lives_any ea w he)
  have HE := Lib.hid he
  have HRA := Lib.hid (fun wx (hb : Below w.heap.size w wx) => read_any wx a ea (he.below hb) (by omega))
  have HRB := Lib.hid (fun wx (hb : Below w.heap.size w wx) => read_any wx b ea (he.below hb) (by omega))
  have HQ := Lib.hid (fun wx (hb : Below w.heap.size w wx) => quote_any k (by omega) wx (hsh.below hb))
  have hql := quote_len k
  have HRL := Lib.hid (fun wx (hb : Below w.heap.size w wx) => read_any wx (listS a b) ea (he.below hb) (by rw [listS_size]; omega))
  have h1 : (a.size : Int) ≤ 1048576 := by omega
  have h2 : (b.size : Int) ≤ 1048576 := by omega
  have h3 : (k.size : Int) ≤ 1048576 := by omega
  have h4 : ¬ (1048576 : Int) < (a.size : Int) + (b.size : Int) + (k.size : Int) := by omega
  have HNA : Hid (pclose (prd a) ≠ 0) := Lib.hid ha
  have HOK : Hid (okCode (pclose (prd a))) := Lib.hid (pclose_ok _ (prd_good a).1)
  have HRO := Lib.hid (fun wx (hb : Below w.heap.size w wx) => read_any wx (oneS a) ea (he.below hb) (by rw [oneS_size]; omega))
  unfold RdPost at HRO
  have hz0 := (prd_size a).1
  rw [h0] at HRO
  clear h0
  unfold RdPost at HRA HRB HRL
  clear ha
  generalize prd a = pa at *
  obtain ⟨n, hpn⟩ : ∃ n, pa.size = n := ⟨_, rfl⟩
  obtain ⟨cd, hcd⟩ : ∃ cd, pclose pa = cd := ⟨_, rfl⟩
  simp only [hpn, hcd] at HRA HNA HOK hn hc hz0 hge
  clear hpn hcd
  clear he hsh 
  generalize hQ : QuoteR k = Q at *
  clear hQ
  obtain ⟨q, ok⟩ := Q
  simp only [] at hql HQ 
  have h5 : (q.size : Int) ≤ 6291458 := by omega
  clear hs hql
  go_enter Tryd.func9, Tryd.ntmps9
  go_wp2_with fail
  refine HLV.out.mono ?_
  rintro e w1 ⟨rfl, hb1⟩
  have HB1 := Lib.hid hb1
  clear hb1
  go_wp2_with fail
  refine (HRA.out w1 HB1.out).mono ?_
  rintro e w2 ⟨va, rfl, hva, hb2⟩
  have VA2 := Lib.hid hva
  obtain ⟨ga, -, hvae, -⟩ := err_some HNA.out hva
  have HB2 : Hid (Below w.heap.size w w2) := Lib.hid (HB1.out.trans (hb2.mono HB1.out.size))
  clear hb2 hva
  subst hvae
  go_wp2_with fail
  refine (HRB.out w2 HB2.out).mono ?_
  rintro e w3 ⟨vb, rfl, hvb, hb3⟩
  clear hvb
  have HB3 : Hid (Below w.heap.size w w3) := Lib.hid (HB2.out.trans (hb3.mono HB2.out.size))
  have VA3 := Lib.hid (VA2.out.below hb3)
  clear hb3
  go_wp2_with fail
  refine (HQ.out w3 HB3.out).mono ?_
  rintro e w4 ⟨rfl, hb4⟩
  have HB4 : Hid (Below w.heap.size w w4) := Lib.hid (HB3.out.trans (hb4.mono HB3.out.size))
  have VA4 := Lib.hid (VA3.out.below hb4)
  clear hb4
  go_wp2_with fail
  refine (HRL.out w4 HB4.out).mono ?_
  rintro e w5 ⟨vl, rfl, hvl, hb5⟩
  clear hvl
  have HB5 : Hid (Below w.heap.size w w5) := Lib.hid (HB4.out.trans (hb5.mono HB4.out.size))
  have VA5 := Lib.hid (VA4.out.below hb5)
  clear hb5
  go_wp2_with fail
  refine (at_of _ _ _ _ HOK.out HNA.out ea w5 (HE.out.below HB5.out) VA5.out).mono ?_
  rintro e w6 ⟨rfl, hb6⟩
  have HB6 : Hid (Below w.heap.size w w6) := Lib.hid (HB5.out.trans (hb6.mono HB5.out.size))
  have VA6 := Lib.hid (VA5.out.below hb6)
  clear hb6
  go_wp2_with fail
  refine (code_of _ _ _ _ HOK.out HNA.out ea w6 (HE.out.below HB6.out) VA6.out).mono ?_
  rintro e w7 ⟨rfl, hb7⟩
  have HB7 : Hid (Below w.heap.size w w7) := Lib.hid (HB6.out.trans (hb7.mono HB6.out.size))
  clear hb7
  rw [hc]
  go_wp2_with fail
  refine (HRO.out w7 HB7.out).mono ?_
  rintro e w8 ⟨vo, rfl, hvo, hb8⟩
  have HB8 : Hid (Below w.heap.size w w8) := Lib.hid (HB7.out.trans (hb8.mono HB7.out.size))
  clear hb8
  obtain rfl := err_nil hvo
  clear hvo
  go_wp2_with fail
  refine (code_nil w8).mono ?_
  rintro e w9 ⟨rfl, rfl⟩
  go_wp2_with fail
  go_ret
  exact ⟨by simp, HB8.out⟩
set_option maxRecDepth 100000 in
set_option maxHeartbeats 3000000 in
theorem wmakes_b5 (a : ByteArray) (b k : ByteArray) (hs : a.size + b.size + k.size ≤ 1048576) (ea : Nat → Addr) (w : World) (he : Errs w ea) (hsh : Shorts w) (ha : ¬ Whole a) (hn : (prd a).size < (a.size : Int)) (hc : ((pclose (prd a) : Nat) : Int) = 3) (h3' : pclose (prd (oneS a)) = 3) (hge : (prd a).size + 1 ≤ (prd (oneS a)).size) :
    Calls Tryd.prog 9 #[.string a, .string b, .string k] w fun e w' => e = .returned (.bool true) ∧ Below w.heap.size w w' := by
  have HLV := Lib.hid (lives_any ea w he)
  have HE := Lib.hid he
  have HRA := Lib.hid (fun wx (hb : Below w.heap.size w wx) => read_any wx a ea (he.below hb) (by omega))
  have HRB := Lib.hid (fun wx (hb : Below w.heap.size w wx) => read_any wx b ea (he.below hb) (by omega))
  have HQ := Lib.hid (fun wx (hb : Below w.heap.size w wx) => quote_any k (by omega) wx (hsh.below hb))
  have hql := quote_len k
  have HRL := Lib.hid (fun wx (hb : Below w.heap.size w wx) => read_any wx (listS a b) ea (he.below hb) (by rw [listS_size]; omega))
  have h1 : (a.size : Int) ≤ 1048576 := by omega
  have h2 : (b.size : Int) ≤ 1048576 := by omega
  have h3 : (k.size : Int) ≤ 1048576 := by omega
  have h4 : ¬ (1048576 : Int) < (a.size : Int) + (b.size : Int) + (k.size : Int) := by omega
  have HNA : Hid (pclose (prd a) ≠ 0) := Lib.hid ha
  have HOK : Hid (okCode (pclose (prd a))) := Lib.hid (pclose_ok _ (prd_good a).1)
  have HRO := Lib.hid (fun wx (hb : Below w.heap.size w wx) => read_any wx (oneS a) ea (he.below hb) (by rw [oneS_size]; omega))
  unfold RdPost at HRO
  have hz0 := (prd_size a).1
  rw [h3'] at HRO
  clear h3'
  unfold RdPost at HRA HRB HRL
  clear ha
  generalize prd a = pa at *
  obtain ⟨n, hpn⟩ : ∃ n, pa.size = n := ⟨_, rfl⟩
  obtain ⟨cd, hcd⟩ : ∃ cd, pclose pa = cd := ⟨_, rfl⟩
  simp only [hpn, hcd] at HRA HNA HOK hn hc hz0 hge
  clear hpn hcd
  clear he hsh 
  generalize hQ : QuoteR k = Q at *
  clear hQ
  obtain ⟨q, ok⟩ := Q
  simp only [] at hql HQ 
  have h5 : (q.size : Int) ≤ 6291458 := by omega
  clear hs hql
  go_enter Tryd.func9, Tryd.ntmps9
  go_wp2_with fail
  refine HLV.out.mono ?_
  rintro e w1 ⟨rfl, hb1⟩
  have HB1 := Lib.hid hb1
  clear hb1
  go_wp2_with fail
  refine (HRA.out w1 HB1.out).mono ?_
  rintro e w2 ⟨va, rfl, hva, hb2⟩
  have VA2 := Lib.hid hva
  obtain ⟨ga, -, hvae, -⟩ := err_some HNA.out hva
  have HB2 : Hid (Below w.heap.size w w2) := Lib.hid (HB1.out.trans (hb2.mono HB1.out.size))
  clear hb2 hva
  subst hvae
  go_wp2_with fail
  refine (HRB.out w2 HB2.out).mono ?_
  rintro e w3 ⟨vb, rfl, hvb, hb3⟩
  clear hvb
  have HB3 : Hid (Below w.heap.size w w3) := Lib.hid (HB2.out.trans (hb3.mono HB2.out.size))
  have VA3 := Lib.hid (VA2.out.below hb3)
  clear hb3
  go_wp2_with fail
  refine (HQ.out w3 HB3.out).mono ?_
  rintro e w4 ⟨rfl, hb4⟩
  have HB4 : Hid (Below w.heap.size w w4) := Lib.hid (HB3.out.trans (hb4.mono HB3.out.size))
  have VA4 := Lib.hid (VA3.out.below hb4)
  clear hb4
  go_wp2_with fail
  refine (HRL.out w4 HB4.out).mono ?_
  rintro e w5 ⟨vl, rfl, hvl, hb5⟩
  clear hvl
  have HB5 : Hid (Below w.heap.size w w5) := Lib.hid (HB4.out.trans (hb5.mono HB4.out.size))
  have VA5 := Lib.hid (VA4.out.below hb5)
  clear hb5
  go_wp2_with fail
  refine (at_of _ _ _ _ HOK.out HNA.out ea w5 (HE.out.below HB5.out) VA5.out).mono ?_
  rintro e w6 ⟨rfl, hb6⟩
  have HB6 : Hid (Below w.heap.size w w6) := Lib.hid (HB5.out.trans (hb6.mono HB5.out.size))
  have VA6 := Lib.hid (VA5.out.below hb6)
  clear hb6
  go_wp2_with fail
  refine (code_of _ _ _ _ HOK.out HNA.out ea w6 (HE.out.below HB6.out) VA6.out).mono ?_
  rintro e w7 ⟨rfl, hb7⟩
  have HB7 : Hid (Below w.heap.size w w7) := Lib.hid (HB6.out.trans (hb7.mono HB6.out.size))
  clear hb7
  rw [hc]
  go_wp2_with fail
  refine (HRO.out w7 HB7.out).mono ?_
  rintro e w8 ⟨vo, rfl, hvo, hb8⟩
  have HB8 : Hid (Below w.heap.size w w8) := Lib.hid (HB7.out.trans (hb8.mono HB7.out.size))
  clear hb8
  obtain ⟨gf, -, rfl, hff⟩ := err_some (by decide) hvo
  have HFF := Lib.hid hff
  clear hff hvo
  go_wp2_with fail
  refine (code_fault gf _ ea w8 2 (by decide) (HE.out.below HB8.out) HFF.out).mono ?_
  rintro e w9 ⟨rfl, hb9⟩
  have HB9 : Hid (Below w.heap.size w w9) := Lib.hid (HB8.out.trans (hb9.mono HB8.out.size))
  clear hb9
  go_wp2_with fail
  go_ret
  exact ⟨by simp, HB9.out⟩
theorem wmakes (a : ByteArray) (hsa : a.size ≤ 1048576) (b : ByteArray) (hsb : b.size ≤ 1048576) (k : ByteArray) (hsk : k.size ≤ 1048576) (ea : Nat → Addr) (w : World) (he : Errs w ea) (hsh : Shorts w) :
    Calls Tryd.prog 9 #[.string a, .string b, .string k] w fun e w' => e = .returned (.bool true) ∧ Below w.heap.size w w' := by
  by_cases hs : a.size + b.size + k.size ≤ 1048576
  · by_cases ha : Whole a
    · by_cases hb : Whole b
      · by_cases hn : NoOver 1 Sc0 (bnat a) ∧ NoOver 1 Sc0 (bnat b)
        · exact wmakes_pair a b k hs ea w he hsh ha hb hn.1 hn.2
        · exact wmakes_deep a b k hs ea w he hsh ha hb hn
      · exact wmakes_c a b k hs ea w he hsh ha hb
    · by_cases hn : (prd a).size < (a.size : Int)
      · by_cases hc : ((pclose (prd a) : Nat) : Int) = 3
        · have h1 := law_one a
          have h2 := pclose_ok _ (prd_good (oneS a)).1
          rcases h2 with h2 | h2 | h2
          · exact wmakes_b4 a b k hs ea w he hsh ha hn hc h2 (by omega)
          · exact wmakes_b5 a b k hs ea w he hsh ha hn hc h2 (by omega)
          · exact wmakes_b3 a b k hs ea w he hsh ha hn hc h2
        · exact wmakes_b2 a b k hs ea w he hsh ha hn hc
      · exact wmakes_b1 a b k hs ea w he hsh ha hn
  · exact wmakes_none a b k hsa hsb hsk (by omega) ea w he hsh
end Go.Proofs.YtjfeebbhkolmoaaDoor.E
