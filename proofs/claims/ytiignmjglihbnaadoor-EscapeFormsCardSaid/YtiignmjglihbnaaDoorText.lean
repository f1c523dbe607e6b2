/- Contract of utf.Text at one code point. -/
import Derived.Test.YtiignmjglihbnaaDoorFromUnits
import Derived.Lib.OthersKept
import Derived.Laws.Cover4
namespace Go.Proofs.YtiignmjglihbnaaDoor
open Go.RowKit Go.Lib
set_option linter.unusedVariables false

theorem u8n (x : Nat) (h : x < 256) : (UInt8.ofNat x).toNat = x := by simp; omega
theorem valid_pt (r : Nat) (h : isPt r = true) : Utf8.valid (r : Int) = true := by
  have h := of_decide_eq_true h
  unfold Utf8.valid
  simp
  omega
theorem enc_str (r : Nat) (h : isPt r = true) : Utf8.encode (r : Int) = strOf (encN r) := by
  unfold Utf8.encode encN strOf
  rw [if_pos (valid_pt r h)]
  simp only [Int.toNat_natCast]
  by_cases h1 : r < 128
  · rw [if_pos h1, if_pos h1]; rfl
  rw [if_neg h1, if_neg h1]
  by_cases h2 : r < 2048
  · rw [if_pos h2, if_pos h2]; rfl
  rw [if_neg h2, if_neg h2]
  by_cases h3 : r < 65536
  · rw [if_pos h3, if_pos h3]; rfl
  rw [if_neg h3, if_neg h3]; rfl
theorem dec_enc (r : Nat) (h : isPt r = true) : Utf8.decode (strOf (encN r)) 0 = (r, (strOf (encN r)).size) := by
  have hv := valid_pt r h
  have h := of_decide_eq_true h
  unfold encN
  by_cases h1 : r < 128
  · rw [if_pos h1]
    have a0 : (((strOf [r]).get! (0 + 0)).toNat) = r := u8n r (by omega)
    unfold Utf8.decode
    simp only [a0, if_pos h1]
    rfl
  rw [if_neg h1]
  by_cases h2 : r < 2048
  · rw [if_pos h2]
    have a0 : (((strOf [192 + r / 64, 128 + r % 64]).get! (0 + 0)).toNat) = 192 + r / 64 := u8n _ (by omega)
    have a1 : (((strOf [192 + r / 64, 128 + r % 64]).get! (0 + 1)).toNat) = 128 + r % 64 := u8n _ (by omega)
    have hs : (strOf [192 + r / 64, 128 + r % 64]).size = 2 := rfl
    unfold Utf8.decode
    simp only [a0, a1, hs]
    have e1 : (192 + r / 64) / 32 = 6 := by omega
    have e2 : (128 + r % 64) / 64 = 2 := by omega
    have e3 : (192 + r / 64) % 32 * 64 + (128 + r % 64) % 64 = r := by omega
    rw [if_neg (by omega), e1, e2, e3]
    simp
    omega
  rw [if_neg h2]
  by_cases h3 : r < 65536
  · rw [if_pos h3]
    have a0 : (((strOf [224 + r / 4096, 128 + r / 64 % 64, 128 + r % 64]).get! (0 + 0)).toNat) = 224 + r / 4096 := u8n _ (by omega)
    have a1 : (((strOf [224 + r / 4096, 128 + r / 64 % 64, 128 + r % 64]).get! (0 + 1)).toNat) = 128 + r / 64 % 64 := u8n _ (by omega)
    have a2 : (((strOf [224 + r / 4096, 128 + r / 64 % 64, 128 + r % 64]).get! (0 + 2)).toNat) = 128 + r % 64 := u8n _ (by omega)
    have hs : (strOf [224 + r / 4096, 128 + r / 64 % 64, 128 + r % 64]).size = 3 := rfl
    unfold Utf8.decode
    simp only [a0, a1, a2, hs]
    have e0 : (224 + r / 4096) / 32 = 7 := by omega
    have e1 : (224 + r / 4096) / 16 = 14 := by omega
    have e2 : (128 + r / 64 % 64) / 64 = 2 := by omega
    have e3 : (128 + r % 64) / 64 = 2 := by omega
    have e4 : (224 + r / 4096) % 16 * 4096 + (128 + r / 64 % 64) % 64 * 64 + (128 + r % 64) % 64 = r := by omega
    rw [if_neg (by omega), e0, e1, e2, e3, e4, hv]
    simp
    omega
  rw [if_neg h3]
  have a0 : (((strOf [240 + r / 262144, 128 + r / 4096 % 64, 128 + r / 64 % 64, 128 + r % 64]).get! (0 + 0)).toNat) = 240 + r / 262144 := u8n _ (by omega)
  have a1 : (((strOf [240 + r / 262144, 128 + r / 4096 % 64, 128 + r / 64 % 64, 128 + r % 64]).get! (0 + 1)).toNat) = 128 + r / 4096 % 64 := u8n _ (by omega)
  have a2 : (((strOf [240 + r / 262144, 128 + r / 4096 % 64, 128 + r / 64 % 64, 128 + r % 64]).get! (0 + 2)).toNat) = 128 + r / 64 % 64 := u8n _ (by omega)
  have a3 : (((strOf [240 + r / 262144, 128 + r / 4096 % 64, 128 + r / 64 % 64, 128 + r % 64]).get! (0 + 3)).toNat) = 128 + r % 64 := u8n _ (by omega)
  have hs : (strOf [240 + r / 262144, 128 + r / 4096 % 64, 128 + r / 64 % 64, 128 + r % 64]).size = 4 := rfl
  unfold Utf8.decode
  simp only [a0, a1, a2, a3, hs]
  have e0 : (240 + r / 262144) / 32 = 7 := by omega
  have e1 : (240 + r / 262144) / 16 = 15 := by omega
  have e8 : (240 + r / 262144) / 8 = 30 := by omega
  have e2 : (128 + r / 4096 % 64) / 64 = 2 := by omega
  have e3 : (128 + r / 64 % 64) / 64 = 2 := by omega
  have e5 : (128 + r % 64) / 64 = 2 := by omega
  have e4 : (240 + r / 262144) % 8 * 262144 + (128 + r / 4096 % 64) % 64 * 4096 + (128 + r / 64 % 64) % 64 * 64 + (128 + r % 64) % 64 = r := by omega
  rw [if_neg (by omega), e0, e1, e2, e3, e5, e8, e4, hv]
  simp
  omega
theorem runes_one (r : Nat) (h : isPt r = true) : runesBytes [(r : Int)] = strOf (encN r) := by
  show ByteArray.empty ++ Utf8.encode (r : Int) = _
  rw [enc_str r h]
  simp

theorem own_iterAt' {w : World} {B e size n : Nat} {v : Value} {xs : List Value} {k : Nat} {s : ByteArray} {pos : Nat} (h : w.ownsRow B e size v n xs) (hk : w.heap[k]? = some (.stringIter s pos)) (pos' : Nat) : (w.iterAt k s pos').ownsRow B e size v n xs := by
  refine ⟨h.1, ?_⟩
  rcases h.2 with h0 | ⟨g, cap, cur, hv, hb, hg, rest⟩
  · exact .inl h0
  · refine .inr ⟨g, cap, cur, hv, hb, ?_, rest⟩
    rw [Lib.iterAt_other _ _ _ _ _ (fun e => by subst e; rw [hk] at hg; cases hg)]
    exact hg
theorem own_ne_iter' {w : World} {B e size n : Nat} {v : Value} {xs : List Value} {k : Nat} {s : ByteArray} {pos : Nat} (h : w.ownsRow B e size v n xs) (hk : w.heap[k]? = some (.stringIter s pos)) : some k ≠ v.ownBlock := by
  rcases h.2 with ⟨rfl, _⟩ | ⟨g, cap, cur, rfl, hb, hg, rest⟩
  · simp [Value.ownBlock]
  · intro e
    simp only [Value.ownBlock, Option.some.injEq] at e
    subst e
    rw [hk] at hg
    cases hg
def mS : Value → Nat
  | .slice _ 0 _ => 1
  | _ => 0
def TRel (w w1 : World) (r : Nat) (Z : ByteArray) (v6 : Value) (wr : World) : Prop :=
  (v6 = .slice (some ⟨w.heap.size, 0, none⟩) 0 1 ∧ wr = w1.iter Z 0) ∨ (∃ A cp, v6 = .slice A (encN r).length cp ∧ wr.ownsRow w.heap.size 5 1 (.slice A (encN r).length cp) (encN r).length (vals .u8 (encN r)) ∧ wr.heap[w1.heap.size]? = some (.stringIter Z Z.size) ∧ Below w.heap.size w wr)

set_option maxRecDepth 100000 in
set_option maxHeartbeats 1500000 in
theorem text_one (r : Nat) (hr : isPt r = true) (g : Nat) (w : World) (hb : Blk w g 21 #[.int .i32 r]) :
    Calls Tryd.prog 35 #[.slice (some ⟨g, 0, none⟩) 1 1] w (TextPost w r) := by
  have hrl : r < 1114112 := by have := of_decide_eq_true hr; omega
  have c0 := hb.cell 0
  have HB := Lib.hid hb
  have HPT := Lib.hid (fun wx => point_any r wx)
  rw [hr] at HPT
  have HBY := Lib.hid (encN_byte r hrl)
  have HLN := Lib.hid (encN_len r)
  have HDE := Lib.hid (dec_enc r hr)
  have HRU := Lib.hid (runes_one r hr)
  clear hb
  obtain ⟨i0, hi, hz0, hz1, hz2⟩ := info_parts info_u8
  go_enter Tryd.func35, Tryd.ntmps35
  go_wp2_with fail
  go_loop [2, 3, 11] (fun _ _ v11 => v11 = .int .i64 0 ∨ v11 = .int .i64 1) (fun _ _ v11 => 1 - (intOf v11).toNat)
  case atStart => exact .inl rfl
  case round =>
    rcases hrel with rfl | rfl
    · go_wp2_with fail
      refine (HPT.out _).mono ?_
      rintro e w' ⟨rfl, rfl⟩
      go_wp2_with fail
      go_round
      case rel => exact .inr rfl
      case measure => simp [intOf]
    · go_upto_region 7 with fail
      go_wp2_with (at_make; refine wpList_make_own _ rfl _ _ 49 rfl w.heap.size 5 i0 (.int .u8 0) 1 Tryd.underlying49 hi hz0 hz1 _ _ _ 1 rfl rfl ?c0 ?c1 ?c2 ?c3 ?_)
      (try case c0 => rfl)
      (try case c1 => rw [hz2]; decide)
      case c2 => unfold maxLen; decide
      (try case c3 => exact Nat.le_refl _)
      intro w1 hown hgr
      have HG1 := Lib.hid (below_of_grown hgr)
      have HO1 := Lib.hid hown
      have hb1 : Blk w1 g 21 #[.int .i32 r] := HB.out.below HG1.out HB.out.lt
      have HCV := run_convert_runes (P := Tryd.prog) w1 77 9 21 ⟨g, 0, none⟩ 1 1 [(r : Int)] (Nat.le_refl _) Tryd.underlying77 Tryd.underlying21 Tryd.underlying9 (by
        intro j hj
        obtain rfl : j = 0 := by simpa using hj
        exact hb1.cell 0)
      have e1 : [(r : Int)].take 1 = [(r : Int)] := rfl
      rw [e1, HRU.out] at HCV
      have HSZ : Hid ((strOf (encN r)).size = (encN r).length) := Lib.hid (by show ((encN r).map UInt8.ofNat).toArray.size = _; simp)
      clear hown hgr hb1 e1 HRU c0
      obtain ⟨Z, hZ⟩ : ∃ Z, strOf (encN r) = Z := ⟨_, rfl⟩
      have HDE2 : Hid (Utf8.decode Z 0 = (r, Z.size)) := Lib.hid (by rw [← hZ]; exact HDE.out)
      have HSZ2 : Hid (Z.size = (encN r).length) := Lib.hid (by rw [← hZ]; exact HSZ.out)
      rw [hZ] at HCV
      have HZ := Lib.hid hZ
      clear hZ HDE HSZ
      go_wp2_with fail
      go_loopw [6] (fun v6 wr => TRel w w1 r Z v6 wr) (fun v6 _ => mS v6)
      case atStart => exact .inl ⟨rfl, rfl⟩
      case round =>
        rcases hrel with ⟨rfl, rfl⟩ | ⟨A, cp, rfl, hown, hit, hbel⟩
        · have hpos : 0 < Z.size := by have := HSZ2.out; have := HLN.out; omega
          have hnx := fun ty => run_next_any_at (P := Tryd.prog) (w1.iter Z 0) w1.heap.size Z 0 ty (World.iter_heap w1 Z 0) hpos
          rw [HDE2.out] at hnx
          simp only [Nat.zero_add] at hnx
          have HOI : Hid (((w1.iter Z 0).iterAt w1.heap.size Z Z.size).ownsRow w.heap.size 5 1 (.slice (some ⟨w.heap.size, 0, none⟩) 0 1) 0 []) := Lib.hid (own_iterAt' (HO1.out.alloc _) (World.iter_heap w1 Z 0) _)
          have HIT : Hid (((w1.iter Z 0).iterAt w1.heap.size Z Z.size).heap[w1.heap.size]? = some (.stringIter Z Z.size)) := Lib.hid (Lib.iterAt_heap _ _ _ _ _ (World.iter_heap w1 Z 0))
          have HBI : Hid (Below w.heap.size w ((w1.iter Z 0).iterAt w1.heap.size Z Z.size)) := Lib.hid (Lib.below_iterAt (HG1.out.alloc HG1.out.size _) HG1.out.size _ _)
          have HPU := Lib.hid (put_any w.heap.size _ [] r hrl _ HOI.out (Nat.zero_le _) HBI.out.size)
          have HNE := Lib.hid (own_ne_iter' HOI.out HIT.out)
          clear hpos hrl
          go_wp2_with fail
          refine HPU.out.mono ?_
          rintro e w4 ⟨v', rfl, hown, hgr⟩
          obtain ⟨A2, k2, rfl, -, -, -, -⟩ := own_rd hown
          have HO4 := Lib.hid hown
          have HI4 : Hid (w4.heap[w1.heap.size]? = some (.stringIter Z Z.size)) := Lib.hid (by
            rw [hgr.block w1.heap.size (Array.getElem?_eq_some_iff.1 HIT.out).1 HNE.out]; exact HIT.out)
          have HB4 : Hid (Below w.heap.size w w4) := Lib.hid (HBI.out.grown hgr HBI.out.size (fun q hq => (HOI.out.lt q hq).1))
          clear hown hgr
          go_wp2_with fail
          go_roundw
          case rel => exact .inr ⟨A2, k2, rfl, HO4.out, HI4.out, HB4.out⟩
          case measure =>
            have := HLN.out.1
            obtain ⟨n, hn⟩ : ∃ n, (encN r).length = n + 1 := ⟨(encN r).length - 1, by omega⟩
            simp [mS, hn]
        · have hnx := fun ty => run_next_end_at (P := Tryd.prog) wr w1.heap.size Z Z.size ty hit (Nat.lt_irrefl _)
          have HBEL := Lib.hid hbel
          have HCV2 := row_string_any HBY.out rfl hown
          rw [HZ.out] at HCV2
          clear hown hit hbel
          go_wp2_with fail
          go_ret2
          exact ⟨by rw [HZ.out] <;> rfl, HBEL.out⟩
end Go.Proofs.YtiignmjglihbnaaDoor
