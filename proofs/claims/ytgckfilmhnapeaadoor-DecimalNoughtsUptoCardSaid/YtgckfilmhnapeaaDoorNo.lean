/- law07.noughts; the plain part of DecimalNoughts. -/
import Derived.Test.YtgckfilmhnapeaaDoorLr
import Derived.Test.YtgckfilmhnapeaaDoorCv
namespace Go.Proofs.YtgckfilmhnapeaaDoor
open Go.RowKit Go.Lib
set_option linter.unusedVariables false

/-- so many noughts -/
def nz (k : Nat) : ByteArray := ⟨(List.replicate k 48).toArray⟩
theorem nz_size (k : Nat) : (nz k).size = k := by
  have h : (nz k).size = (nz k).data.toList.length := (bytes_len _).symm
  rw [h]; unfold nz; simp
theorem nz_succ (k : Nat) : nz k ++ ⟨#[48]⟩ = nz (k + 1) := by
  apply ByteArray.ext
  apply Array.toList_inj.1
  rw [ByteArray.data_append]
  unfold nz
  simp [List.replicate_succ']
set_option maxRecDepth 100000 in
theorem noughts_any (n : Nat) (hn : n ≤ 255) (w : World) : Calls Tryd.prog 19 #[.int .i64 n] w fun e w' => e = .returned (.string (nz n)) ∧ w' = w := by
  go_enter Tryd.func19, Tryd.ntmps19
  go_wp2_with fail
  go_loop [3, 4] (fun t i => ∃ k : Nat, k ≤ n ∧ i = .int .i64 k ∧ t = .string (nz k)) (fun _ i => n - (RowKit.intOf i).toNat)
  case atStart => exact ⟨0, Nat.zero_le _, rfl, rfl⟩
  case round =>
    obtain ⟨k, hk, rfl, rfl⟩ := hrel
    have HN := Lib.hid (nz_succ k)
    have hz := nz_size k
    by_cases hlt : k < n
    · go_wp2_with fail
      go_round
      case rel => exact ⟨k + 1, hlt, by go_num, by rw [HN.out]⟩
      case measure => simp [RowKit.intOf]; omega
    · obtain rfl : k = n := by omega
      go_wp2_with fail
      go_ret
      exact ⟨rfl, rfl⟩

def longS (s : ByteArray) (a b : Nat) : ByteArray := nz a ++ s ++ nz b
theorem long_list (s : ByteArray) (a b : Nat) : (longS s a b).data.toList = List.replicate a 48 ++ s.data.toList ++ List.replicate b 48 := by
  unfold longS nz
  rw [ByteArray.data_append, ByteArray.data_append]
  simp
theorem long_size (s : ByteArray) (a b : Nat) : (longS s a b).size = a + s.size + b := by
  rw [← bytes_len, long_list, ← bytes_len]
  simp
  omega
theorem fine_nz (a : Nat) : fineL (List.replicate a 48) = true := by
  unfold fineL
  rw [List.all_eq_true]
  intro c hc
  rw [(List.mem_replicate.1 hc).2]
  rfl
theorem long_fine (s : ByteArray) (a b : Nat) : fineB (longS s a b) = fineB s := by
  unfold fineB
  rw [long_list]
  have h1 := fine_nz a
  have h2 := fine_nz b
  unfold fineL at *
  rw [List.all_append, List.all_append, h1, h2, Bool.true_and, Bool.and_true]
theorem long_nval (s : ByteArray) (a b : Nat) : nval (longS s a b).data.toList = nval s.data.toList * 10 ^ b := by
  rw [long_list, nval_append, nval_append, nval_noughts, nval_noughts, Nat.zero_mul, Nat.zero_add, Nat.add_zero, List.length_replicate]
theorem long_read {f l W sign : Nat} {neg : Bool} {s : ByteArray} {p x y : Int} (a b : Nat) (h : LVal f l W sign neg s p x) (g : LVal f l W sign neg (longS s a b) (p + a) y) : x = y := by
  rcases h with ⟨h1, rfl⟩ | ⟨h1, sz, rfl, hs, -⟩
  · rcases g with ⟨-, rfl⟩ | ⟨g1, -⟩
    · rfl
    · rw [long_fine, h1] at g1; cases g1
  · rcases g with ⟨g1, -⟩ | ⟨g1, tz, rfl, gs, -⟩
    · rw [long_fine, h1] at g1; cases g1
    · rw [long_nval, bytes_len, long_size] at gs
      rw [bytes_len] at hs
      have e : sz = tz := by
        refine RdSpec.unique (rd_pad ?_) gs
        rw [show p + (a : Int) - ((a + s.size + b : Nat) : Int) + (b : Int) = p - s.size by omega]
        exact hs
      rw [e]
theorem turn_read {f l W sign : Nat} {neg : Bool} {s : ByteArray} {p x z : Int} (h : LVal f l W sign neg s p x) (g : LVal f l W sign (!neg) s p z) :
    (fineB s = false → x = 0 ∧ z = 0) ∧ (fineB s = true → neg = true → x = z + sign ∧ 0 ≤ z ∧ z < sign) ∧ (fineB s = true → neg = false → z = x + sign ∧ 0 ≤ x ∧ x < sign) := by
  rcases h with ⟨h1, rfl⟩ | ⟨h1, sz, rfl, hs, hl⟩
  · rcases g with ⟨g1, rfl⟩ | ⟨g1, -⟩
    · exact ⟨fun _ => ⟨rfl, rfl⟩, (fun e => by rw [h1] at e; cases e), (fun e => by rw [h1] at e; cases e)⟩
    · rw [h1] at g1; cases g1
  · rcases g with ⟨g1, -⟩ | ⟨-, tz, rfl, gs, -⟩
    · rw [h1] at g1; cases g1
    · obtain rfl := hs.unique gs
      refine ⟨(fun e => by rw [h1] at e; cases e), fun _ e => ?_, fun _ e => ?_⟩
      · subst e; simp [sgnN]; omega
      · subst e; simp [sgnN]; omega
theorem long_cmp (neg : Bool) (s : ByteArray) (p : Int) (a b : Nat) (hs : s.size ≤ 1048576) (ha : a ≤ 255) (hb : b ≤ 255) : cmpV neg s p neg (longS s a b) (p + a) = 0 ∧ bothB s (longS s a b) = fineB s := by
  have hf : bothB s (longS s a b) = fineB s := by unfold bothB; rw [long_fine, Bool.and_self]
  refine ⟨?_, hf⟩
  cases h : fineB s
  · exact cmpV_no _ _ _ _ _ _ (hf.trans h)
  · have hz := long_size s a b
    obtain ⟨E, hE⟩ : ∃ E : Nat, E = (s.size - p).toNat + b := ⟨_, rfl⟩
    rw [cmpV_val _ _ _ _ _ _ E (hf.trans h) (by omega) (by omega) (by omega) (by omega)]
    have e : val (longS s a b) (p + a) E = val s p E := by
      unfold val
      rw [long_nval, hz, Nat.mul_assoc, ← Nat.pow_add]
      congr 2
      omega
    unfold sval
    rw [e, Int.sub_self]
    rfl
end Go.Proofs.YtgckfilmhnapeaaDoor
