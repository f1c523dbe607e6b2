/- Contracts of crucibleref07.Fine and crucibleref07.Plain. -/
import Derived.Test.YtgckfilmhnapeaaDoorDec3
namespace Go.Proofs.YtgckfilmhnapeaaDoor
open Go.RowKit Go.Lib
set_option linter.unusedVariables false

set_option maxRecDepth 100000 in
set_option maxHeartbeats 1500000 in
theorem fine_ref (neg : Bool) (s : ByteArray) (p : Int) (w : World) (hs : s.size ≤ 9223372036854775807) :
    Calls Tryd.prog 30 #[.agg #[.bool neg, .string s, .int .i64 p]] w fun e w' => e = .returned (.bool (fineB s)) ∧ Below w.heap.size w w' := by
  go_enter Tryd.func30, Tryd.ntmps30
  go_wp2_with fail
  go_loop [3] (fun i => ∃ k : Nat, k ≤ s.size ∧ i = .int .i64 k ∧ fineL (s.data.toList.take k) = true) (fun i => s.size - (RowKit.intOf i).toNat)
  case atStart => exact ⟨0, Nat.zero_le _, rfl, rfl⟩
  case round =>
    obtain ⟨k, hk, rfl, hf⟩ := hrel
    have HF := Lib.hid hf
    clear hf
    by_cases hlt : k < s.size
    · by_cases h1 : (s[k]).toNat < 48
      · have h1' : ((s[k]).toNat : Int) < 48 := by omega
        have HN : Hid (fineB s = false) := Lib.hid (fine_no s.data.toList k (by rw [bytes_len]; exact hlt) (.inl h1))
        clear h1
        go_wp2_with fail
        go_ret
        exact ⟨by rw [HN.out] <;> rfl, (Below.refl _ _).alloc (Nat.le_refl _) _⟩
      · have h1' : ¬ ((s[k]).toNat : Int) < 48 := by omega
        by_cases h2 : 57 < (s[k]).toNat
        · have h2' : 57 < ((s[k]).toNat : Int) := by omega
          have HN : Hid (fineB s = false) := Lib.hid (fine_no s.data.toList k (by rw [bytes_len]; exact hlt) (.inr h2))
          clear h1 h2
          go_wp2_with fail
          go_ret
          exact ⟨by rw [HN.out] <;> rfl, (Below.refl _ _).alloc (Nat.le_refl _) _⟩
        · have h2' : ¬ 57 < ((s[k]).toNat : Int) := by omega
          have HN : Hid (fineL (s.data.toList.take (k + 1)) = true) := Lib.hid (fine_take_succ s.data.toList k (by rw [bytes_len]; exact hlt) HF.out (by rw [bytes_at s k hlt]; omega) (by rw [bytes_at s k hlt]; omega))
          clear h1 h2
          go_wp2_with fail
          go_round
          case rel => exact ⟨k + 1, hlt, by go_num, HN.out⟩
          case measure => simp [RowKit.intOf]; omega
    · obtain rfl : k = s.size := by omega
      have HN : Hid (fineB s = true) := Lib.hid (by have h := HF.out; rw [← bytes_len] at h; exact fine_full _ h)
      go_wp2_with fail
      go_ret
      exact ⟨by rw [HN.out] <;> rfl, (Below.refl _ _).alloc (Nat.le_refl _) _⟩

def LeadRel (s : ByteArray) (k : Nat) : Prop := ∀ j, (h : j < s.size) → j < k → s[j] = 48
def TailRel (s : ByteArray) (m : Nat) : Prop := ∀ j, (h : j < s.size) → m ≤ j → s[j] = 48
def StopRel (s : ByteArray) (k : Nat) : Prop := (h : k < s.size) → s[k] ≠ 48
def EndRel (s : ByteArray) (k : Nat) (v : Value) : Prop := ∃ m : Nat, k ≤ m ∧ m ≤ s.size ∧ v = .int .i64 m ∧ TailRel s m
theorem byte_ne (c : UInt8) (h : c ≠ 48) : ((c.toNat : Int) == 48) = false := by
  rw [beq_eq_false_iff_ne]
  intro h2
  apply h
  have : c.toNat = 48 := by omega
  exact UInt8.toNat_inj.1 this

set_option maxRecDepth 100000 in
set_option maxHeartbeats 1500000 in
theorem plain_ref (s : ByteArray) (w : World) (hs : s.size ≤ 9223372036854775807) :
    Calls Tryd.prog 31 #[.string s] w fun e w' => e = .returned (.tuple #[.string (plainS s), .int .i64 (leadL s.data.toList : Nat)]) ∧ w = w' := by
  go_enter Tryd.func31, Tryd.ntmps31
  go_wp2_with fail
  go_loop [4] (fun i => ∃ k : Nat, k ≤ s.size ∧ i = .int .i64 k ∧ LeadRel s k) (fun i => s.size - (RowKit.intOf i).toNat)
  case atStart => exact ⟨0, Nat.zero_le _, rfl, fun j h hj => absurd hj (by omega)⟩
  case round =>
    obtain ⟨k, hk, rfl, hl⟩ := hrel
    have HL := Lib.hid hl
    clear hl
    by_cases hgo : ∃ h : k < s.size, s[k] = 48
    · obtain ⟨hlt, hc⟩ := hgo
      have hb : (((s[k]).toNat : Int) == 48) = true := by rw [hc]; rfl
      have HL2 : Hid (LeadRel s (k + 1)) := Lib.hid (fun j h hj => by
        rcases Nat.lt_or_ge j k with h2 | h2
        · exact HL.out j h h2
        · obtain rfl : j = k := by omega
          exact hc)
      clear hc
      go_wp2_with fail
      go_round
      case rel => exact ⟨k + 1, hlt, by go_num, HL2.out⟩
      case measure => simp [RowKit.intOf]; omega
    · have HST : Hid (StopRel s k) := Lib.hid (fun h hc => hgo ⟨h, hc⟩)
      clear hgo
      by_cases hlt : k < s.size
      all_goals
        have hb : (h : k < s.size) → (((s[k]).toNat : Int) == 48) = false := fun h => byte_ne _ (HST.out h)
        try have hbb := hb hlt
        clear hb
        go_wp2_with fail
        go_loop [5] (fun v => EndRel s k v) (fun v => (RowKit.intOf v).toNat)
        case atStart => exact ⟨s.size, hk, Nat.le_refl _, rfl, fun j h hj => absurd h (by omega)⟩
        case round =>
          obtain ⟨m, hm1, hm2, rfl, ht⟩ := hrel
          have HT := Lib.hid ht
          clear ht
          by_cases hkm : m = k
          · subst hkm
            have HE := Lib.hid (plain_of s m m (Nat.le_refl _) hm2 HL.out HST.out HT.out (fun h => absurd h (Nat.lt_irrefl _)))
            have HE2 : Hid (plainS s = ByteArray.empty) := Lib.hid (by rw [← HE.out.1]; simp)
            go_wp2_with fail
            go_ret2
            exact ⟨by rw [HE2.out, HE.out.2] <;> rfl, rfl⟩
          · first
            | (exfalso; omega)
            | (
              obtain ⟨m', rfl⟩ : ∃ m', m = m' + 1 := ⟨m - 1, by omega⟩
              have hlt2 : m' < s.size := by omega
              by_cases hc : s[m'] = 48
              · have hb2 : (((s[m']).toNat : Int) == 48) = true := by rw [hc]; rfl
                have HT2 : Hid (TailRel s m') := Lib.hid (fun j h hj => by
                  rcases Nat.lt_or_ge m' j with h2 | h2
                  · exact HT.out j h h2
                  · obtain rfl : j = m' := by omega
                    exact hc)
                clear hc
                go_wp2_with fail
                go_round
                case rel => exact ⟨m', by omega, by omega, by go_num, HT2.out⟩
                case measure => simp [RowKit.intOf] <;> omega
              · have hb2 := byte_ne _ hc
                have HE := Lib.hid (plain_of s k (m' + 1) hm1 hm2 HL.out HST.out HT.out (fun _ h => by simpa using hc))
                clear hc
                go_wp2_with fail
                go_ret2
                exact ⟨by rw [← HE.out.1, HE.out.2] <;> rfl, rfl⟩)
end Go.Proofs.YtgckfilmhnapeaaDoor
