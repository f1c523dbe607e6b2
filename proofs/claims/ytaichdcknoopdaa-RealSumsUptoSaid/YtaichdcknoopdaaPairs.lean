/- Pairs of patterns in memory; the contract of cruciblelaw05.number. -/
import Derived.Test.YtaichdcknoopdaaAdd
import Derived.Test.YtaichdcknoopdaaNum
import Derived.Test.YtaichdcknoopdaaArgs
import Derived.Deep.QuietTactic
import Derived.BigQuiet
namespace Go.Proofs.Ytaichdcknoopdaa
open Go.RowKit

theorem number_any (x y : Nat) (w : World) :
    Calls Try.prog 25 #[.agg #[.int .u64 x, .int .u64 y]] w fun e w' => e = .returned (.complex .f64 x y) ∧ Below w.heap.size w w' := by
  go_enter Try.func25, Try.ntmps25
  go_wp2
  go_quiet ((first | (go_at_call 14; exact quiet_same (float_any _ _)) | (go_at_call 56; exact quiet_same (join_any _ _ _))))
  go_wp2
  go_ret
  exact ⟨rfl, below_drewN ((Below.refl _ _).alloc (Nat.le_refl _) _) _⟩

/-- a slice of pairs in memory -/
def PairsAt (w : World) (a : Option Addr) (ps : List (Nat × Nat)) : Prop :=
  ∀ i, i < ps.length → ∃ b off, a = some ⟨b, off, none⟩ ∧ b < w.heap.size ∧ w.cell? ⟨b, off + i * 2, none⟩ = some (.int .u64 ((ps.getD i (0, 0)).1 : Nat)) ∧ w.cell? ⟨b, off + i * 2 + 1, none⟩ = some (.int .u64 ((ps.getD i (0, 0)).2 : Nat))

def cvals (ps : List (Nat × Nat)) : List Value := ps.map fun p => Value.complex .f64 p.1 p.2

theorem cvals_succ (ps : List (Nat × Nat)) (k : Nat) (h : k < ps.length) (p : Nat × Nat) (hp : ps.getD k (0, 0) = p) : cvals (ps.take (k + 1)) = cvals (ps.take k) ++ [.complex .f64 p.1 p.2] := by
  have e : ps[k] = p := by rw [← hp]; simp [h]
  rw [List.take_succ_eq_append_getElem h, e]
  simp only [cvals, List.map_append, List.map_cons, List.map_nil]

theorem cvals_get (ps : List (Nat × Nat)) (i : Nat) (h : i < ps.length) : (cvals ps)[i]? = some (.complex .f64 ((ps.map (·.1)).getD i 0) ((ps.map (·.2)).getD i 0)) := by
  simp [cvals, h]
theorem rd_cplx {w : World} {A : Option Addr} {ps : List (Nat × Nat)} (h : Rd w A (cvals ps)) : CplxAt w A (ps.map (·.1)) (ps.map (·.2)) := by
  intro i hi
  rw [List.length_map] at hi
  exact h.at_ (cvals_get ps i hi)
theorem cvals_take (ps : List (Nat × Nat)) (k : Nat) : (cvals ps).take k = cvals (ps.take k) := by simp [cvals, List.map_take]
theorem cvals_drop (ps : List (Nat × Nat)) (k : Nat) : (cvals ps).drop k = cvals (ps.drop k) := by simp [cvals, List.map_drop]
theorem cvals_len (ps : List (Nat × Nat)) : (cvals ps).length = ps.length := by simp [cvals]
theorem cvals_one (ps : List (Nat × Nat)) : ∀ u ∈ cvals ps, u.oneCell' = true := by
  intro u hu
  simp only [cvals, List.mem_map] at hu
  obtain ⟨p, _, rfl⟩ := hu
  rfl
theorem cplx_two {w : World} (a b c d : Nat) (e : TypeId) : CplxAt (w.alloc (.cells #[.complex .f64 a b, .complex .f64 c d] e)) (some ⟨w.heap.size, 0, none⟩) [a, c] [b, d] := by
  intro i hi
  have hi' : i = 0 ∨ i = 1 := by simp at hi; omega
  rcases hi' with rfl | rfl
  · exact ⟨_, _, rfl, by simp [go_sem]⟩
  · exact ⟨_, _, rfl, by simp [go_sem]⟩

/-- the second loop's relation -/
def LoopRel (w3 : World) (n : Nat) (i : Value) (wr : World) : Prop := ∃ k : Nat, k ≤ n ∧ i = .int .i64 k ∧ Below w3.heap.size w3 wr
theorem cplx_two' {w : World} {g : Nat} (hg : w.heap.size = g) (a b c d : Nat) (e : TypeId) : CplxAt (w.alloc (.cells #[.complex .f64 a b, .complex .f64 c d] e)) (some ⟨g, 0, none⟩) [a, c] [b, d] := by
  subst hg; exact cplx_two a b c d e

theorem nothing_any (d x : Nat) (hd : one64 d = sub64 x x) (w : World) :
    Calls Try.prog 46 #[.float .f64 d, .float .f64 x] w fun e w' => e = .returned (.bool true) ∧ ∃ n, w' = w.drewN n := by
  obtain ⟨r, n, h, h1, h2⟩ := run_arith64 (P := Try.prog) w .sub x x F64.sub (fun _ _ => rfl) (Or.inr (Or.inl rfl)) (fun _ _ _ => sub_notNaN)
  have hb : (binOp .sub 29 (.float .f64 x) (.float .f64 x)).run Try.prog w = .ok (.float .f64 r) (w.drewN n) := by
    simp only [binOp]
    exact h
  clear h
  by_cases hf : x % 9223372036854775808 < 9218868437227405312
  · have hs : sub64 x x = 0 := by unfold sub64; rw [sub_self_fin x hf]; rfl
    rw [show (F64.sub x x).getD 9221120237041090560 = sub64 x x from rfl, hs] at h1
    rw [hs] at hd
    have hr : r = 0 := by
      unfold one64 at h1
      cases hn : nan64 r <;> rw [hn] at h1 <;> simp at h1
      exact h1
    subst hr
    have ho : F64.order 0 0 = some .eq := by decide +kernel
    have HD := Lib.hid hd
    clear hd h1 hs hf
    go_enter Try.func46, Try.ntmps46
    go_wp2_with (go_at_call 17; refine (bits_any _ _).mono ?_; rw [HD.out]; rintro e w' ⟨rfl, rfl⟩)
    go_ret
    exact ⟨rfl, n, rfl⟩
  · have hs : sub64 x x = 9221120237041090560 := by unfold sub64; rw [sub_self_inf x (by omega)]; rfl
    have hnan : ∀ z, one64 z = 9221120237041090560 → nan64 z = true := by
      intro z hz
      cases hn : nan64 z with
      | true => rfl
      | false => rw [one64_id hn] at hz; rw [hz] at hn; exact absurd hn (by decide)
    have hn1 := hnan r (h1.trans hs)
    have hn2 := hnan d (hd.trans hs)
    have ho := order64_nan r 0 (Or.inl hn1)
    have ho2 := order64_self d
    rw [hn2] at ho2
    clear hd h1 hs hf hnan hn1 hn2
    go_enter Try.func46, Try.ntmps46
    go_wp2
    go_ret
    exact ⟨rfl, n, rfl⟩

theorem info_cplx : (Try.prog.info? 48).map (fun i => (i.zero, i.size, i.bytes)) = some (some (.complex .f64 0 0), 1, 16) := by kernel_rfl

def ListRel (w : World) (ps : List (Nat × Nat)) (v i : Value) (wr : World) : Prop :=
  ∃ k : Nat, k ≤ ps.length ∧ i = .int .i64 k ∧ wr.ownsRow w.heap.size 48 1 v k (cvals (ps.take k)) ∧ Below w.heap.size w wr

set_option maxRecDepth 100000 in
set_option maxHeartbeats 3000000 in
theorem folds_small (w : World) (a : Option Addr) (cap : Nat) (n : Int) (ps : List (Nat × Nat)) (hp : PairsAt w a ps) (hbd : ∀ p ∈ ps, p.1 < 18446744073709551616 ∧ p.2 < 18446744073709551616) (hl : ps.length ≤ 1048576) :
    Calls Try.prog 11 #[.slice a ps.length cap, .int .i64 n] w fun e w' => e = .returned (.bool true) ∧ Below w.heap.size w w' := by
  have HP := Lib.hid hp
  have BD := Lib.hid hbd
  clear hp hbd
  go_enter Try.func11, Try.ntmps11
  go_wp2_with fail
  go_loopw [5, 6] (fun v i wr => ListRel w ps v i wr) (fun _ i _ => ps.length - (intOf i).toNat)
  case atStart => exact ⟨0, Nat.zero_le _, rfl, ⟨by simp [cvals], .inl ⟨rfl, rfl⟩⟩, Below.refl _ _⟩
  case round =>
    obtain ⟨k, hk, rfl, hown, hbel⟩ := hrel
    have HOWN := Lib.hid hown
    have HBEL := Lib.hid hbel
    clear hown hbel
    by_cases hlt : k < ps.length
    · obtain ⟨b, off, rfl, hb, hc1, hc2⟩ := HP.out k hlt
      have c1 : wr.cell? ⟨b, off + k * 2, none⟩ = _ := (HBEL.out.cell hb).trans hc1
      have c2 : wr.cell? ⟨b, off + k * 2 + 1, none⟩ = _ := (HBEL.out.cell hb).trans hc2
      clear hc1 hc2
      generalize hpk : ps.getD k (0, 0) = p at *
      have HX : Hid (cvals (ps.take (k + 1)) = cvals (ps.take k) ++ [.complex .f64 p.1 p.2]) := Lib.hid (cvals_succ ps k hlt p hpk)
      clear hpk
      go_wp2_with fail
      refine (number_any _ _ _).mono ?_; rintro e w1 ⟨rfl, hb1⟩
      obtain ⟨i0, hi, hz0, hz1, hz2⟩ := info_parts info_cplx
      have hown1 := (own_below HOWN.out hb1).alloc (.cells #[.complex .f64 p.1 p.2] 48)
      have hbel1 := HBEL.out.trans (hb1.mono HBEL.out.size)
      have HP1 := Lib.hid hown1
      have HB1 := Lib.hid hbel1
      clear hown1 hbel1
      go_wp2_with (at_builtin; refine wpList_append_own _ rfl _ _ 47 rfl w.heap.size 48 i0 (.complex .f64 0 0) 1 16 Try.underlying47 hi hz0 hz1 hz2 rfl (by decide) _ _ _ rfl HP1.out ⟨w1.heap.size, 0, none⟩ 1 1 [.complex .f64 p.1 p.2] rfl rfl ?c1 ?c2 ?c3 ?c4 ?c5 ?_)
      case c1 => exact (cell_one_new _ _ _)
      case c2 => exact one_oneCell rfl
      case c3 => unfold maxLen; omega
      case c4 => omega
      case c5 => have := HB1.out.size; simp; omega
      intro v2 w2 hown2 hg2 _
      have hbel2 := (HB1.out.alloc HB1.out.size (.cells #[.complex .f64 p.1 p.2] 48)).grown hg2 (by have := HB1.out.size; simp; omega) (fun q hq => (HP1.out.lt q hq).1)
      have HO2 := Lib.hid hown2
      have HB2 := Lib.hid hbel2
      clear hown2 hbel2 hg2
      go_wp2
      go_roundw
      case rel => exact ⟨k + 1, by omega, by go_num, by rw [HX.out]; exact HO2.out, HB2.out⟩
      case measure => simp [intOf]; omega
    · obtain rfl : k = ps.length := by omega
      rw [List.take_length] at HOWN
      obtain ⟨A, c, rfl, hnc, hcm, hcl, hrd⟩ := own_rd HOWN.out
      unfold maxLen at hcm
      have RD := Lib.hid hrd
      have CL := Lib.hid hcl
      clear HOWN hrd hlt hk hcl
      have ht1 : -(ps.length : Int) ≤ n.tmod (ps.length + 1) := by have := Int.lt_tmod_of_pos n (show (0 : Int) < ps.length + 1 by omega); omega
      have ht2 : n.tmod (ps.length + 1) ≤ ps.length := by have := Int.tmod_lt_of_pos n (show (0 : Int) < ps.length + 1 by omega); omega
      obtain ⟨N, hN, hNl⟩ : ∃ N : Nat, (if n.tmod (ps.length + 1) < 0 then n.tmod (ps.length + 1) + ps.length + 1 else n.tmod (ps.length + 1)) = (N : Int) ∧ N ≤ ps.length := by
        by_cases h : n.tmod (ps.length + 1) < 0
        · rw [if_pos h]; exact ⟨(n.tmod (ps.length + 1) + ps.length + 1).toNat, by omega, by omega⟩
        · rw [if_neg h]; exact ⟨(n.tmod (ps.length + 1)).toNat, by omega, by omega⟩
      generalize hT : n.tmod (ps.length + 1) = T at *
      have hpa := HBEL.out
      have HBW := Lib.hid hpa
      clear hpa
      by_cases hneg : T < 0
      · rw [if_pos hneg] at hN
        obtain rfl : T = (N : Int) - ps.length - 1 := by omega
        have eN : (N : Int) - ps.length - 1 + ps.length + 1 = N := by omega
        clear hN
        go_wp2_with fail
        refine (plus_n _ A c N ((ps.take N).map (·.1)) ((ps.take N).map (·.2)) (by simp; omega) (by simp) (by omega) (rd_cplx (by rw [← cvals_take]; exact RD.out.take N))).mono ?_
        rintro e w1 ⟨r, s, m, rfl, rfl, g1, g2, g3, g4⟩
        have G1 := Lib.hid g1
        have G2 := Lib.hid g2
        have G3 := Lib.hid g3
        have G4 := Lib.hid g4
        clear g1 g2 g3 g4
        obtain ⟨i0, hi, hz0, hz1, hz2⟩ := info_parts info_cplx
        obtain ⟨A', hA'⟩ : ∃ A', (if c = N then A else A.map (·.add N)) = A' := ⟨_, rfl⟩
        have RDD : Hid (Rd wr A' ((cvals ps).drop N)) := Lib.hid (by rw [← hA']; exact RD.out.drop (by rw [CL.out]; exact hnc))
        go_wp2_with (at_builtin; refine wpList_append_any _ rfl (.tmp 49) (.tmp 52) _ rfl w.heap.size 48 i0 (.complex .f64 0 0) 1 16 Try.underlying47 hi hz0 hz1 hz2 rfl (by omega) (.slice (some ⟨wr.heap.size, 0, none⟩) 1 1) 1 [.complex .f64 r s] rfl ?d1 (wr.heap.size + 1) A' (ps.length - N) (c - N) ((cvals ps).drop N) rfl ?d2 ?d3 ?d4 ?d5 ?d6 ?_)
        case d1 => exact World.ownsRow_lit (base := w.heap.size) (e := 48) (size := 1) (wr.drewN m) #[.complex .f64 r s] 1 (HBEL.out.size) (by decide) rfl
        case d2 => exact (reads_of_rd (w := (wr.drewN m).alloc (.cells #[.complex .f64 r s] 48)) ((RDD.out.drewN m).alloc _) (by rw [List.length_drop, CL.out])).more (by simp)
        case d3 => rw [cvals_drop]; exact cvals_one _
        case d4 => unfold maxLen; omega
        case d5 => omega
        case d6 => have := HBEL.out.size; simp; omega
        intro v3 w3 hown3 hg3 _
        have hown3' : w3.ownsRow w.heap.size 48 1 v3 (1 + (ps.length - N)) (cvals ((r, s) :: ps.drop N)) := by rw [cvals_drop] at hown3; exact hown3
        have hb3 : Below wr.heap.size wr w3 := (below_drewN' ((Below.refl _ _)) m |>.alloc (Nat.le_refl _) _).grown hg3 (by simp) (fun q hq => by simp [Value.ownBlock] at hq; simp; omega)
        obtain ⟨A3, c3, rfl, hnc3, hcm3, hcl3, hrd3⟩ := own_rd hown3'
        have RD3 := Lib.hid hrd3
        have HB3 := Lib.hid hb3
        clear hown3 hg3 hown3' hcl3 hrd3 hb3
        go_wp2_with fail
        refine (plus_n _ A3 c3 (1 + (ps.length - N)) (((r, s) :: ps.drop N).map (·.1)) (((r, s) :: ps.drop N).map (·.2)) (by simp; omega) (by simp) (by omega) (rd_cplx RD3.out)).mono ?_
        have f1 : fold64 0 (((r, s) :: ps.drop N).map (·.1)) = fold64 0 (ps.map (·.1)) := by
          have := fold_split (ps.map (·.1)) N r (by rw [← List.map_take]; exact G1.out) G3.out
          rwa [← List.map_drop] at this
        have f2 : fold64 0 (((r, s) :: ps.drop N).map (·.2)) = fold64 0 (ps.map (·.2)) := by
          have := fold_split (ps.map (·.2)) N s (by rw [← List.map_take]; exact G2.out) G4.out
          rwa [← List.map_drop] at this
        rw [f1, f2]
        clear f1 f2
        rintro e w4 ⟨r2, s2, m2, rfl, rfl, k1, k2, -, -⟩
        have K1 := Lib.hid k1
        have K2 := Lib.hid k2
        clear k1 k2
        go_wp2_with fail
        refine (plus_n _ A c ps.length (ps.map (·.1)) (ps.map (·.2)) (by simp) (by simp) (by omega) (rd_cplx ((RD.out.below HB3.out).drewN m2))).mono ?_
        rintro e w5 ⟨r4, s4, m4, rfl, rfl, k1, k2, -, -⟩
        have eq1 : decide (one64 r2 = one64 r4 ∧ one64 s2 = one64 s4) = true := by rw [K1.out, K2.out, k1, k2]; simp
        clear k1 k2 K1 K2
        go_wp2_with fail
        refine (sameComplex_any _ _ _ _ _).mono ?_; rw [eq1]; rintro e w6 ⟨rfl, rfl⟩
        clear eq1 hA'
        go_wp2_with fail
        go_loopw [9] (fun i wr => LoopRel w3 ps.length i wr) (fun i _ => ps.length - (intOf i).toNat)
        case atStart => exact ⟨0, Nat.zero_le _, rfl, below_drewN' (Below.refl _ _) _⟩
        case round =>
          rename_i wq
          obtain ⟨k, hk, rfl, hb⟩ := hrel
          have HB := Lib.hid hb
          clear hb
          by_cases hlt : k < ps.length
          · obtain ⟨b, off, rfl, hcell⟩ := ((RD.out.below HB3.out).below HB.out).at_ (cvals_get ps k hlt)
            have hxy : ((ps.map (·.1)).getD k 0) < 18446744073709551616 ∧ ((ps.map (·.2)).getD k 0) < 18446744073709551616 := by
              have := BD.out _ (List.getElem_mem hlt)
              simpa [hlt] using this
            generalize (ps.map (·.1)).getD k 0 = x at *
            generalize (ps.map (·.2)).getD k 0 = y at *
            have X1 := Lib.hid hxy.1
            have X2 := Lib.hid hxy.2
            clear hxy
            have N1 : Hid (notNegZ r) := Lib.hid (one_notNegZ G1.out (fold0 _).1)
            have N2 : Hid (notNegZ s) := Lib.hid (one_notNegZ G2.out (fold0 _).1)
            go_wp2_with fail
            refine (flip_any _ _ _).mono ?_; rintro e w6 ⟨rfl, rfl⟩
            go_wp2_with fail
            refine (flip_any _ _ _).mono ?_; rintro e w6 ⟨rfl, rfl⟩
            go_wp2_with fail
            refine (sameComplex_any _ _ _ _ _).mono ?_
            have eq1 : decide (one64 x = one64 x ∧ one64 (Op.negFloat .f64 (Op.negFloat .f64 y)) = one64 y) = true := by rw [one64_negneg]; simp
            rw [eq1]; rintro e w6 ⟨rfl, rfl⟩
            clear eq1
            go_wp2_with fail
            refine (plus_n _ _ 2 2 [x, r] [y, s] rfl rfl (by decide) (cplx_two' rfl _ _ _ _ _)).mono ?_
            rintro e w6 ⟨r5, s5, m5, rfl, rfl, k1, k2, -, -⟩
            have K1 := Lib.hid k1
            have K2 := Lib.hid k2
            clear k1 k2
            go_wp2_with fail
            refine (plus_n _ _ 2 2 [r, x] [s, y] rfl rfl (by decide) (cplx_two' (by simp) _ _ _ _ _)).mono ?_
            rintro e w6 ⟨r6, s6, m6, rfl, rfl, k1, k2, -, -⟩
            have eq1 : decide (one64 r5 = one64 r6 ∧ one64 s5 = one64 s6) = true := by
              rw [K1.out, K2.out, k1, k2, fold_pair x r X1.out G3.out N1.out, fold_pair y s X2.out G4.out N2.out]; simp
            clear k1 k2 K1 K2
            go_wp2_with fail
            refine (sameComplex_any _ _ _ _ _).mono ?_; rw [eq1]; rintro e w6 ⟨rfl, rfl⟩
            clear eq1
            go_wp2_with fail
            refine (minus_any _ _ _ _ _).mono ?_
            rintro e w6 ⟨r7, s7, m7, rfl, rfl, k1, k2, -, -⟩
            have K1 := Lib.hid k1
            have K2 := Lib.hid k2
            clear k1 k2
            go_wp2_with fail
            refine (split_any _ _ _).mono ?_; rintro e w6 ⟨rfl, rfl⟩
            go_wp2_with fail
            refine (split_any _ _ _).mono ?_; rintro e w6 ⟨rfl, rfl⟩
            go_wp2_with fail
            refine (nothing_any _ _ K1.out _).mono ?_; rintro e w6 ⟨rfl, m8, rfl⟩
            go_wp2_with fail
            refine (nothing_any _ _ K2.out _).mono ?_; rintro e w6 ⟨rfl, m9, rfl⟩
            go_wp2_with fail
            go_roundw
            case rel =>
              refine ⟨k + 1, by omega, by go_num, ?_⟩
              have h1 := HB.out.alloc HB.out.size (.cells #[.complex .f64 x y, .complex .f64 r s] 48)
              have h2 := (below_drewN' h1 m5).alloc (below_drewN' h1 m5).size (.cells #[.complex .f64 r s, .complex .f64 x y] 48)
              exact below_drewN' h2 _
            case measure => simp [intOf]; omega
          · go_wp2_with fail
            refine (lives_below _).mono ?_; rintro e w6 ⟨rfl, hb6⟩
            go_wp2_with fail
            go_ret
            refine ⟨rfl, ?_⟩
            have h1 := HBEL.out.trans (HB3.out.mono HBEL.out.size)
            have h2 := h1.trans (HB.out.mono h1.size)
            exact h2.trans (hb6.mono h2.size)
      · rw [if_neg hneg] at hN
        subst hN
        go_wp2_with fail
        refine (plus_n _ A c N ((ps.take N).map (·.1)) ((ps.take N).map (·.2)) (by simp; omega) (by simp) (by omega) (rd_cplx (by rw [← cvals_take]; exact RD.out.take N))).mono ?_
        rintro e w1 ⟨r, s, m, rfl, rfl, g1, g2, g3, g4⟩
        have G1 := Lib.hid g1
        have G2 := Lib.hid g2
        have G3 := Lib.hid g3
        have G4 := Lib.hid g4
        clear g1 g2 g3 g4
        obtain ⟨i0, hi, hz0, hz1, hz2⟩ := info_parts info_cplx
        obtain ⟨A', hA'⟩ : ∃ A', (if c = N then A else A.map (·.add N)) = A' := ⟨_, rfl⟩
        have RDD : Hid (Rd wr A' ((cvals ps).drop N)) := Lib.hid (by rw [← hA']; exact RD.out.drop (by rw [CL.out]; exact hnc))
        go_wp2_with (at_builtin; refine wpList_append_any _ rfl (.tmp 49) (.tmp 52) _ rfl w.heap.size 48 i0 (.complex .f64 0 0) 1 16 Try.underlying47 hi hz0 hz1 hz2 rfl (by omega) (.slice (some ⟨wr.heap.size, 0, none⟩) 1 1) 1 [.complex .f64 r s] rfl ?d1 (wr.heap.size + 1) A' (ps.length - N) (c - N) ((cvals ps).drop N) rfl ?d2 ?d3 ?d4 ?d5 ?d6 ?_)
        case d1 => exact World.ownsRow_lit (base := w.heap.size) (e := 48) (size := 1) (wr.drewN m) #[.complex .f64 r s] 1 (HBEL.out.size) (by decide) rfl
        case d2 => exact (reads_of_rd (w := (wr.drewN m).alloc (.cells #[.complex .f64 r s] 48)) ((RDD.out.drewN m).alloc _) (by rw [List.length_drop, CL.out])).more (by simp)
        case d3 => rw [cvals_drop]; exact cvals_one _
        case d4 => unfold maxLen; omega
        case d5 => omega
        case d6 => have := HBEL.out.size; simp; omega
        intro v3 w3 hown3 hg3 _
        have hown3' : w3.ownsRow w.heap.size 48 1 v3 (1 + (ps.length - N)) (cvals ((r, s) :: ps.drop N)) := by rw [cvals_drop] at hown3; exact hown3
        have hb3 : Below wr.heap.size wr w3 := (below_drewN' ((Below.refl _ _)) m |>.alloc (Nat.le_refl _) _).grown hg3 (by simp) (fun q hq => by simp [Value.ownBlock] at hq; simp; omega)
        obtain ⟨A3, c3, rfl, hnc3, hcm3, hcl3, hrd3⟩ := own_rd hown3'
        have RD3 := Lib.hid hrd3
        have HB3 := Lib.hid hb3
        clear hown3 hg3 hown3' hcl3 hrd3 hb3
        go_wp2_with fail
        refine (plus_n _ A3 c3 (1 + (ps.length - N)) (((r, s) :: ps.drop N).map (·.1)) (((r, s) :: ps.drop N).map (·.2)) (by simp; omega) (by simp) (by omega) (rd_cplx RD3.out)).mono ?_
        have f1 : fold64 0 (((r, s) :: ps.drop N).map (·.1)) = fold64 0 (ps.map (·.1)) := by
          have := fold_split (ps.map (·.1)) N r (by rw [← List.map_take]; exact G1.out) G3.out
          rwa [← List.map_drop] at this
        have f2 : fold64 0 (((r, s) :: ps.drop N).map (·.2)) = fold64 0 (ps.map (·.2)) := by
          have := fold_split (ps.map (·.2)) N s (by rw [← List.map_take]; exact G2.out) G4.out
          rwa [← List.map_drop] at this
        rw [f1, f2]
        clear f1 f2
        rintro e w4 ⟨r2, s2, m2, rfl, rfl, k1, k2, -, -⟩
        have K1 := Lib.hid k1
        have K2 := Lib.hid k2
        clear k1 k2
        go_wp2_with fail
        refine (plus_n _ A c ps.length (ps.map (·.1)) (ps.map (·.2)) (by simp) (by simp) (by omega) (rd_cplx ((RD.out.below HB3.out).drewN m2))).mono ?_
        rintro e w5 ⟨r4, s4, m4, rfl, rfl, k1, k2, -, -⟩
        have eq1 : decide (one64 r2 = one64 r4 ∧ one64 s2 = one64 s4) = true := by rw [K1.out, K2.out, k1, k2]; simp
        clear k1 k2 K1 K2
        go_wp2_with fail
        refine (sameComplex_any _ _ _ _ _).mono ?_; rw [eq1]; rintro e w6 ⟨rfl, rfl⟩
        clear eq1 hA'
        go_wp2_with fail
        go_loopw [9] (fun i wr => LoopRel w3 ps.length i wr) (fun i _ => ps.length - (intOf i).toNat)
        case atStart => exact ⟨0, Nat.zero_le _, rfl, below_drewN' (Below.refl _ _) _⟩
        case round =>
          rename_i wq
          obtain ⟨k, hk, rfl, hb⟩ := hrel
          have HB := Lib.hid hb
          clear hb
          by_cases hlt : k < ps.length
          · obtain ⟨b, off, rfl, hcell⟩ := ((RD.out.below HB3.out).below HB.out).at_ (cvals_get ps k hlt)
            have hxy : ((ps.map (·.1)).getD k 0) < 18446744073709551616 ∧ ((ps.map (·.2)).getD k 0) < 18446744073709551616 := by
              have := BD.out _ (List.getElem_mem hlt)
              simpa [hlt] using this
            generalize (ps.map (·.1)).getD k 0 = x at *
            generalize (ps.map (·.2)).getD k 0 = y at *
            have X1 := Lib.hid hxy.1
            have X2 := Lib.hid hxy.2
            clear hxy
            have N1 : Hid (notNegZ r) := Lib.hid (one_notNegZ G1.out (fold0 _).1)
            have N2 : Hid (notNegZ s) := Lib.hid (one_notNegZ G2.out (fold0 _).1)
            go_wp2_with fail
            refine (flip_any _ _ _).mono ?_; rintro e w6 ⟨rfl, rfl⟩
            go_wp2_with fail
            refine (flip_any _ _ _).mono ?_; rintro e w6 ⟨rfl, rfl⟩
            go_wp2_with fail
            refine (sameComplex_any _ _ _ _ _).mono ?_
            have eq1 : decide (one64 x = one64 x ∧ one64 (Op.negFloat .f64 (Op.negFloat .f64 y)) = one64 y) = true := by rw [one64_negneg]; simp
            rw [eq1]; rintro e w6 ⟨rfl, rfl⟩
            clear eq1
            go_wp2_with fail
            refine (plus_n _ _ 2 2 [x, r] [y, s] rfl rfl (by decide) (cplx_two' rfl _ _ _ _ _)).mono ?_
            rintro e w6 ⟨r5, s5, m5, rfl, rfl, k1, k2, -, -⟩
            have K1 := Lib.hid k1
            have K2 := Lib.hid k2
            clear k1 k2
            go_wp2_with fail
            refine (plus_n _ _ 2 2 [r, x] [s, y] rfl rfl (by decide) (cplx_two' (by simp) _ _ _ _ _)).mono ?_
            rintro e w6 ⟨r6, s6, m6, rfl, rfl, k1, k2, -, -⟩
            have eq1 : decide (one64 r5 = one64 r6 ∧ one64 s5 = one64 s6) = true := by
              rw [K1.out, K2.out, k1, k2, fold_pair x r X1.out G3.out N1.out, fold_pair y s X2.out G4.out N2.out]; simp
            clear k1 k2 K1 K2
            go_wp2_with fail
            refine (sameComplex_any _ _ _ _ _).mono ?_; rw [eq1]; rintro e w6 ⟨rfl, rfl⟩
            clear eq1
            go_wp2_with fail
            refine (minus_any _ _ _ _ _).mono ?_
            rintro e w6 ⟨r7, s7, m7, rfl, rfl, k1, k2, -, -⟩
            have K1 := Lib.hid k1
            have K2 := Lib.hid k2
            clear k1 k2
            go_wp2_with fail
            refine (split_any _ _ _).mono ?_; rintro e w6 ⟨rfl, rfl⟩
            go_wp2_with fail
            refine (split_any _ _ _).mono ?_; rintro e w6 ⟨rfl, rfl⟩
            go_wp2_with fail
            refine (nothing_any _ _ K1.out _).mono ?_; rintro e w6 ⟨rfl, m8, rfl⟩
            go_wp2_with fail
            refine (nothing_any _ _ K2.out _).mono ?_; rintro e w6 ⟨rfl, m9, rfl⟩
            go_wp2_with fail
            go_roundw
            case rel =>
              refine ⟨k + 1, by omega, by go_num, ?_⟩
              have h1 := HB.out.alloc HB.out.size (.cells #[.complex .f64 x y, .complex .f64 r s] 48)
              have h2 := (below_drewN' h1 m5).alloc (below_drewN' h1 m5).size (.cells #[.complex .f64 r s, .complex .f64 x y] 48)
              exact below_drewN' h2 _
            case measure => simp [intOf]; omega
          · go_wp2_with fail
            refine (lives_below _).mono ?_; rintro e w6 ⟨rfl, hb6⟩
            go_wp2_with fail
            go_ret
            refine ⟨rfl, ?_⟩
            have h1 := HBEL.out.trans (HB3.out.mono HBEL.out.size)
            have h2 := h1.trans (HB.out.mono h1.size)
            exact h2.trans (hb6.mono h2.size)

theorem folds_any (w : World) (a : Option Addr) (cap : Nat) (n : Int) (ps : List (Nat × Nat)) (hp : PairsAt w a ps) (hbd : ∀ p ∈ ps, p.1 < 18446744073709551616 ∧ p.2 < 18446744073709551616) :
    Calls Try.prog 11 #[.slice a ps.length cap, .int .i64 n] w fun e w' => e = .returned (.bool true) ∧ Below w.heap.size w w' := by
  by_cases hl : ps.length ≤ 1048576
  · exact folds_small w a cap n ps hp hbd hl
  · have hl' : 1048576 < (ps.length : Int) := by omega
    go_enter Try.func11, Try.ntmps11
    go_wp2_with fail
    go_ret
    exact ⟨rfl, Below.refl _ _⟩

open Go.ChangeShapes Go.WideShapes Go.Deep in
/-- an argument that is a slice of pairs -/
theorem open_pairs {H : Type} {enc : TypeId × Value → H} {W : World} {base : Nat} {a : Option Addr} {len cap : Nat} {d : DataW H} {p : List MemPlace}
    (h : DataW.Trod enc Try.prog W base (fun _ => true) true 46 (.slice a len cap) d p) :
    ∃ ps : List (Nat × Nat), ps.length = len ∧ PairsAt W a ps ∧ ∀ q ∈ ps, q.1 < 18446744073709551616 ∧ q.2 < 18446744073709551616 := by
  obtain ⟨fuel, hf⟩ := h
  rcases Str.open_slice_fields Try.underlying46 Try.underlying51 (by kernel_rfl) (by kernel_rfl) hf with ⟨hcs, _⟩ | ⟨a', len', cap', m, D, Pl, hcs, _, hlc, _, hm, _, hi⟩
  · simp [Value.cells] at hcs
    obtain ⟨rfl, rfl, rfl⟩ := hcs
    exact ⟨[], rfl, fun i hi => absurd hi (by simp), by simp⟩
  · simp [Value.cells] at hcs
    obtain ⟨rfl, rfl, rfl⟩ := hcs
    have hm' : len ≤ m := by rw [hm]; simpa using hlc
    have key : ∀ i, i < len → ∃ q : Nat × Nat, q.1 < 18446744073709551616 ∧ q.2 < 18446744073709551616 ∧ W.cell? (a'.add (i * 2)) = some (.int .u64 (q.1 : Nat)) ∧ W.cell? (a'.add (i * 2 + 1)) = some (.int .u64 (q.2 : Nat)) := by
      intro i hil
      obtain ⟨ys, nn, _, _, _, hfld⟩ := hi i (by omega)
      obtain ⟨v0, y0, c0, _, t0⟩ := hfld 0 _ rfl
      obtain ⟨v1, y1, c1, _, t1⟩ := hfld 1 _ rfl
      obtain ⟨x, ex, _, wx⟩ := DataW.trod_int Try.underlying22 t0
      obtain ⟨y, ey, _, wy⟩ := DataW.trod_int Try.underlying22 t1
      simp at ex ey
      subst ex ey
      obtain ⟨x', rfl, hx'⟩ := u64_arg wx
      obtain ⟨y', rfl, hy'⟩ := u64_arg wy
      exact ⟨(x', y'), hx', hy', c0, c1⟩
    obtain ⟨f, hf'⟩ := choose_lt key
    refine ⟨(List.range len).map f, by simp, ?_, ?_⟩
    · intro i hil
      simp at hil
      obtain ⟨_, _, c0, c1⟩ := hf' i hil
      have hb : a'.block < W.heap.size := by
        rcases Nat.lt_or_ge a'.block W.heap.size with g | g
        · exact g
        · have : W.cell? (a'.add (i * 2)) = none := by unfold World.cell?; rw [block_of_add, Array.getElem?_eq_none g]
          rw [this] at c0; cases c0
      obtain ⟨b, off, spot⟩ := a'
      have hsp : spot = none := by
        have h0 := (hf' 0 (by omega)).2.2.1
        have : (⟨b, off, spot⟩ : Addr).add (0 * 2) = ⟨b, off, spot⟩ := by simp [Addr.add]
        rw [this] at h0
        exact World.cell?_spot h0
      subst hsp
      have e : ∀ j, (⟨b, off, none⟩ : Addr).add j = ⟨b, off + j, none⟩ := by
        intro j
        unfold Addr.add
        by_cases hj : j = 0
        · subst hj; simp
        · simp [hj]
      rw [e] at c0 c1
      refine ⟨b, off, rfl, hb, ?_, ?_⟩
      · simpa [hil] using c0
      · simpa [hil, Nat.add_assoc] using c1
    · intro q hq
      simp at hq
      obtain ⟨i, hil, rfl⟩ := hq
      exact ⟨(hf' i hil).1, (hf' i hil).2.1⟩
end Go.Proofs.Ytaichdcknoopdaa
