/- The plain law of brackets: so many of any kinds, opened and shut. -/
import Derived.Test.YtjfeebbhkolmoaaDoorWCuts
namespace Go.Proofs.YtjfeebbhkolmoaaDoor
open Go.RowKit
set_option linter.unusedVariables false

def brC (b : Bool) : Nat := if b = true then 91 else 123
def oP (b : Bool) : ByteArray := if b = true then ⟨#[91]⟩ else ⟨#[123, 34, 107, 34, 58]⟩
def sP (b : Bool) : ByteArray := if b = true then ⟨#[93]⟩ else ⟨#[125]⟩
def oB (l : List Bool) : ByteArray := l.foldl (fun acc b => acc ++ oP b) ⟨#[]⟩
def sB (l : List Bool) : ByteArray := l.foldl (fun acc b => sP b ++ acc) ⟨#[]⟩
theorem oB_snoc (l : List Bool) (b : Bool) : oB (l ++ [b]) = oB l ++ oP b := by unfold oB; rw [List.foldl_append]; rfl
theorem sB_snoc (l : List Bool) (b : Bool) : sB (l ++ [b]) = sP b ++ sB l := by unfold sB; rw [List.foldl_append]; rfl
theorem bnat_app (x y : ByteArray) : bnat (x ++ y) = bnat x ++ bnat y := by unfold bnat; simp
theorem oP_size (b : Bool) : (oP b).size ≤ 5 := by cases b <;> decide
theorem sP_size (b : Bool) : (sP b).size = 1 := by cases b <;> rfl
theorem list_snoc_ind {p : List Bool → Prop} (h0 : p []) (h1 : ∀ l b, p l → p (l ++ [b])) (l : List Bool) : p l := by
  generalize hn : l.length = n
  induction n generalizing l with
  | zero => rw [List.eq_nil_of_length_eq_zero hn]; exact h0
  | succ n ih =>
    have hne : l ≠ [] := by rintro rfl; simp at hn
    rw [← List.dropLast_concat_getLast hne]
    exact h1 _ _ (ih _ (by simp [hn]))
theorem oB_size (l : List Bool) : (oB l).size ≤ 5 * l.length := by
  induction l using list_snoc_ind with
  | h0 => exact Nat.zero_le _
  | h1 l b ih => rw [oB_snoc]; have := oP_size b; simp; omega
theorem sB_size (l : List Bool) : (sB l).size = l.length := by
  induction l using list_snoc_ind with
  | h0 => rfl
  | h1 l b ih => rw [sB_snoc]; have := sP_size b; simp; omega

/-- where a value is to come -/
def AtV (s : Sc) (ks : List Bool) : Prop := s.bad = 0 ∧ s.open_ = ks.map brC ∧ s.done = false ∧ (s.k = jValue ∨ (s.k = jFirstItem ∧ ∃ l, ks = l ++ [true])) ∧ (s.k = jValue → ks = [] ∨ ∃ l, ks = l ++ [false])
theorem pfeed_ok (s s' : Sc) (c : Nat) (h0 : s.bad = 0) (h : pstep s c = (s', 0)) : pfeed s c = sTell s' 0 (s'.size + 1) := by
  unfold pfeed
  rw [if_pos h0, h]; rfl
theorem pfeed_no (s s' : Sc) (c b : Nat) (hb : b ≠ 0) (h0 : s.bad = 0) (h : pstep s c = (s', b)) : pfeed s c = sTell s' b s'.size := by
  unfold pfeed
  rw [if_pos h0, h]
  show sTell s' b (if b = 0 then s'.size + 1 else s'.size) = _
  rw [if_neg hb]
theorem step_at (s : Sc) (k : Nat) (c : Nat) (h : s.k = k) : pstep s c = pstep { s with k := k } c := by rw [← h]
theorem at_open (s : Sc) (ks : List Bool) (h : AtV s ks) (c : Nat) (hc : c ≠ 93) : pstep s c = pValue s c := by
  obtain ⟨-, -, -, hk, -⟩ := h
  unfold pstep
  rcases hk with hk | ⟨hk, -⟩
  · rw [if_pos hk]
  · rw [if_neg (by rw [hk]; decide), if_pos hk]
    unfold pFirstItem
    rw [if_neg hc]
theorem value_91 (s : Sc) (h : s.open_.length ≠ 128) : pValue s 91 = (sTo (sOpen s 91) jFirstItem false, 0) := by
  unfold pValue; rw [if_neg (by decide), if_pos rfl, if_neg h]
theorem value_123 (s : Sc) (h : s.open_.length ≠ 128) : pValue s 123 = (sTo (sOpen s 123) jFirstKey false, 0) := by
  unfold pValue; rw [if_neg (by decide), if_neg (by decide), if_pos rfl, if_neg h]
theorem value_48 (s : Sc) : pValue s 48 = (sTo s jZero true, 0) := by
  unfold pValue; rw [if_neg (by decide), if_neg (by decide), if_neg (by decide), if_neg (by decide), if_neg (by decide), if_pos rfl]
/-- a bracket more -/
theorem open_true (s : Sc) (ks : List Bool) (h : AtV s ks) (hl : ks.length < 128) : AtV (pwrite s (bnat (oP true))) (ks ++ [true]) := by
  have ho : s.open_.length ≠ 128 := by rw [h.2.1, List.length_map]; omega
  have e : pwrite s (bnat (oP true)) = sTell (sTo (sOpen s 91) jFirstItem false) 0 (s.size + 1) := by
    show pfeed s 91 = _
    exact pfeed_ok s _ 91 h.1 ((at_open s ks h 91 (by decide)).trans (value_91 s ho))
  rw [e]
  refine ⟨rfl, ?_, rfl, .inr ⟨rfl, ks, rfl⟩, fun hk => absurd (show jFirstItem = jValue from hk) (by decide)⟩
  show s.open_ ++ [91] = _
  rw [h.2.1, List.map_append]; rfl
theorem open_false (s : Sc) (ks : List Bool) (h : AtV s ks) (hl : ks.length < 128) : AtV (pwrite s (bnat (oP false))) (ks ++ [false]) := by
  have ho : s.open_.length ≠ 128 := by rw [h.2.1, List.length_map]; omega
  have e1 : pfeed s 123 = sTell (sTo (sOpen s 123) jFirstKey false) 0 (s.size + 1) := pfeed_ok s _ 123 h.1 ((at_open s ks h 123 (by decide)).trans (value_123 s ho))
  have e2 : ∀ z, pfeed (sTell (sTo (sOpen s 123) jFirstKey false) 0 z) 34 = sTell (sTo (sKey (sOpen s 123) true) jText false) 0 (z + 1) := fun z => pfeed_ok (sTell (sTo (sOpen s 123) jFirstKey false) 0 z) (sTell (sTo (sKey (sOpen s 123) true) jText false) 0 z) 34 rfl rfl
  have e3 : ∀ z, pfeed (sTell (sTo (sKey (sOpen s 123) true) jText false) 0 z) 107 = sTell (sTo (sKey (sOpen s 123) true) jText false) 0 (z + 1) := fun z => pfeed_ok (sTell (sTo (sKey (sOpen s 123) true) jText false) 0 z) (sTell (sTo (sKey (sOpen s 123) true) jText false) 0 z) 107 rfl rfl
  have e4 : ∀ z, pfeed (sTell (sTo (sKey (sOpen s 123) true) jText false) 0 z) 34 = sTell (sTo (sKey (sOpen s 123) true) jColon false) 0 (z + 1) := fun z => pfeed_ok (sTell (sTo (sKey (sOpen s 123) true) jText false) 0 z) (sTell (sTo (sKey (sOpen s 123) true) jColon false) 0 z) 34 rfl rfl
  have e5 : ∀ z, pfeed (sTell (sTo (sKey (sOpen s 123) true) jColon false) 0 z) 58 = sTell (sTo (sKey (sOpen s 123) true) jValue false) 0 (z + 1) := fun z => pfeed_ok (sTell (sTo (sKey (sOpen s 123) true) jColon false) 0 z) (sTell (sTo (sKey (sOpen s 123) true) jValue false) 0 z) 58 rfl rfl
  have e : pwrite s (bnat (oP false)) = sTell (sTo (sKey (sOpen s 123) true) jValue false) 0 (s.size + 1 + 1 + 1 + 1 + 1) := by
    show pfeed (pfeed (pfeed (pfeed (pfeed s 123) 34) 107) 34) 58 = _
    rw [e1, e2, e3, e4, e5]
  rw [e]
  refine ⟨rfl, ?_, rfl, .inl rfl, fun _ => .inr ⟨ks, rfl⟩⟩
  show s.open_ ++ [123] = _
  rw [h.2.1, List.map_append]; rfl
theorem open_all (ks : List Bool) (hl : ks.length ≤ 128) : AtV (pwrite Sc0 (bnat (oB ks))) ks := by
  induction ks using list_snoc_ind with
  | h0 => exact ⟨rfl, rfl, rfl, .inl rfl, fun _ => .inl rfl⟩
  | h1 l b ih =>
    have hll : l.length < 128 := by simp at hl; omega
    rw [oB_snoc, bnat_app, pwrite_app]
    cases b
    · exact open_false _ l (ih (by omega)) hll
    · exact open_true _ l (ih (by omega)) hll
/-- one bracket too many -/
theorem over_one (s : Sc) (ks : List Bool) (h : AtV s ks) (hl : ks.length = 128) (b : Bool) : pfeed s (brC b) = sTell s 5 s.size := by
  have ho : s.open_.length = 128 := by rw [h.2.1, List.length_map]; exact hl
  refine pfeed_no s s _ 5 (by decide) h.1 ((at_open s ks h _ (by cases b <;> decide)).trans ?_)
  cases b
  · show pValue s 123 = _
    unfold pValue; rw [if_neg (by decide), if_neg (by decide), if_pos rfl, if_pos ho]
  · show pValue s 91 = _
    unfold pValue; rw [if_neg (by decide), if_pos rfl, if_pos ho]
theorem oP_head (b : Bool) : ∃ l, bnat (oP b) = brC b :: l := by cases b <;> exact ⟨_, rfl⟩
theorem oB_app (l m : List Bool) : ∃ y, bnat (oB (l ++ m)) = bnat (oB l) ++ y ∧ (∀ b m', m = b :: m' → ∃ y', y = brC b :: y') := by
  induction m using list_snoc_ind with
  | h0 => exact ⟨[], by simp, fun b m' h => by cases h⟩
  | h1 m b ih =>
    obtain ⟨y, hy, hh⟩ := ih
    refine ⟨y ++ bnat (oP b), by rw [← List.append_assoc, oB_snoc, bnat_app, hy, List.append_assoc], fun c m' h => ?_⟩
    cases m with
    | nil =>
      have h1 : b = c := by simpa using congrArg List.head? h
      subst h1
      obtain ⟨q, hq⟩ := oP_head b
      have hy0 : y = [] := by
        have := hy
        simp at this
        exact this
      rw [hy0, hq]
      exact ⟨q, rfl⟩
    | cons x m0 =>
      obtain ⟨y', hy'⟩ := hh x m0 rfl
      have h1 : x = c := by simpa using congrArg List.head? h
      subst h1
      exact ⟨y' ++ bnat (oP b), by rw [hy']; rfl⟩
/-- more than MaxDepth: the first beyond is told -/
theorem deep_over (ks : List Bool) (hl : 128 < ks.length) (y : List Nat) :
    pclose (pwrite Sc0 (bnat (oB ks) ++ y)) = 5 ∧ (pwrite Sc0 (bnat (oB ks) ++ y)).size = (oB (ks.take 128)).size ∧ (pwrite Sc0 (bnat (oB ks) ++ y)).open_.length = 128 := by
  have h128 : (ks.take 128).length = 128 := by rw [List.length_take]; omega
  have ha := open_all (ks.take 128) (by omega)
  obtain ⟨z, hz, hh⟩ := oB_app (ks.take 128) (ks.drop 128)
  rw [List.take_append_drop] at hz
  have hd : ks.drop 128 = ks[128] :: ks.drop 129 := List.drop_eq_getElem_cons hl
  obtain ⟨z', hz'⟩ := hh _ _ hd
  have hfull := write_full Sc0 (bnat (oB (ks.take 128))) ha.1
  have hover := over_one _ _ ha h128 ks[128]
  have hrun : pwrite Sc0 (bnat (oB ks) ++ y) = sTell (pwrite Sc0 (bnat (oB (ks.take 128)))) 5 (pwrite Sc0 (bnat (oB (ks.take 128)))).size := by
    rw [hz, hz', List.append_assoc, pwrite_app]
    show pwrite (pfeed (pwrite Sc0 (bnat (oB (ks.take 128)))) (brC ks[128])) (z' ++ y) = _
    rw [hover]
    exact pwrite_bad _ _ (by show (5 : Nat) ≠ 0; decide)
  rw [hrun]
  refine ⟨rfl, ?_, ?_⟩
  · show (pwrite Sc0 (bnat (oB (ks.take 128)))).size = _
    rw [hfull.2, bnat_len]
    show (0 : Int) + _ = _
    omega
  · show (pwrite Sc0 (bnat (oB (ks.take 128)))).open_.length = 128
    rw [ha.2.1, List.length_map]; exact h128

/-- a value has ended, or a list's end may come -/
def AtE (s : Sc) (ks : List Bool) : Prop := s.bad = 0 ∧ s.open_ = ks.map brC ∧ (s.k = jZero ∨ s.k = jAfter ∨ (s.k = jFirstItem ∧ ∃ l, ks = l ++ [true])) ∧ (s.k = jZero ∨ s.k = jAfter → s.done = true)
def clC (b : Bool) : Nat := if b = true then 93 else 125
theorem shut_after (s : Sc) (l : List Bool) (b : Bool) (ho : s.open_ = (l ++ [b]).map brC) : pAfter s (clC b) = (sTo (sShut s) jAfter true, 0) := by
  have hne : s.open_ ≠ [] := by rw [ho]; simp
  have htop : ∀ c, topIs s c = (brC b == c) := fun c => by unfold topIs; rw [ho]; simp
  unfold pAfter
  rw [if_neg (by cases b <;> decide), if_neg hne, if_neg (by cases b <;> decide), if_pos]
  rw [htop, htop]
  cases b
  · exact .inr ⟨rfl, rfl⟩
  · exact .inl ⟨rfl, rfl⟩
theorem shut_one (s : Sc) (l : List Bool) (b : Bool) (h : AtE s (l ++ [b])) : AtE (pfeed s (clC b)) l := by
  obtain ⟨h0, ho, hk, hd⟩ := h
  have hst : pstep s (clC b) = (sTo (sShut s) jAfter true, 0) := by
    unfold pstep
    rcases hk with hk | hk | ⟨hk, l', hl'⟩
    · rw [if_neg (by rw [hk]; decide), if_neg (by rw [hk]; decide), if_neg (by rw [hk]; decide), if_neg (by rw [hk]; decide), if_neg (by rw [hk]; decide), if_neg (by rw [hk]; decide), if_neg (by rw [hk]; decide), if_neg (by rw [hk]; decide), if_pos hk]
      unfold pZero pFraction
      rw [if_neg (by cases b <;> decide), if_neg (by cases b <;> decide)]
      exact shut_after s l b ho
    · rw [if_neg (by rw [hk]; decide), if_neg (by rw [hk]; decide), if_neg (by rw [hk]; decide), if_neg (by rw [hk]; decide), if_neg (by rw [hk]; decide), if_pos hk]
      exact shut_after s l b ho
    · have hb : b = true := by
        have := congrArg List.getLast? hl'
        simpa using this
      subst hb
      rw [if_neg (by rw [hk]; decide), if_pos hk]
      unfold pFirstItem
      rw [show clC true = 93 from rfl, if_pos rfl]
      exact shut_after s l true ho
  rw [pfeed_ok s _ _ h0 hst]
  refine ⟨rfl, ?_, .inr (.inl rfl), fun _ => rfl⟩
  show s.open_.dropLast = _
  rw [ho]; simp
theorem shut_all (ks : List Bool) : ∀ s, AtE s ks → ks ≠ [] → AtE (pwrite s (bnat (sB ks))) [] ∧ (pwrite s (bnat (sB ks))).done = true := by
  induction ks using list_snoc_ind with
  | h0 => intro s _ h; exact absurd rfl h
  | h1 l b ih =>
    intro s hs _
    have h1 := shut_one s l b hs
    have hb : bnat (sB (l ++ [b])) = clC b :: bnat (sB l) := by rw [sB_snoc, bnat_app]; cases b <;> rfl
    have hk : (pfeed s (clC b)).done = true := by
      obtain ⟨h0, ho, hk, hd⟩ := hs
      rcases h1.2.2.1 with h2 | h2 | ⟨h2, -⟩
      · exact h1.2.2.2 (.inl h2)
      · exact h1.2.2.2 (.inr h2)
      · exfalso
        have hk' : (pfeed s (clC b)).k = jAfter := by
          have hst : pstep s (clC b) = (sTo (sShut s) jAfter true, 0) := by
            unfold pstep
            rcases hk with hk | hk | ⟨hk, l', hl'⟩
            · rw [if_neg (by rw [hk]; decide), if_neg (by rw [hk]; decide), if_neg (by rw [hk]; decide), if_neg (by rw [hk]; decide), if_neg (by rw [hk]; decide), if_neg (by rw [hk]; decide), if_neg (by rw [hk]; decide), if_neg (by rw [hk]; decide), if_pos hk]
              unfold pZero pFraction
              rw [if_neg (by cases b <;> decide), if_neg (by cases b <;> decide)]
              exact shut_after s l b ho
            · rw [if_neg (by rw [hk]; decide), if_neg (by rw [hk]; decide), if_neg (by rw [hk]; decide), if_neg (by rw [hk]; decide), if_neg (by rw [hk]; decide), if_pos hk]
              exact shut_after s l b ho
            · have hb : b = true := by
                have := congrArg List.getLast? hl'
                simpa using this
              subst hb
              rw [if_neg (by rw [hk]; decide), if_pos hk]
              unfold pFirstItem
              rw [show clC true = 93 from rfl, if_pos rfl]
              exact shut_after s l true ho
          rw [pfeed_ok s _ _ h0 hst]; rfl
        rw [h2] at hk'
        exact absurd hk' (by decide)
    rw [hb]
    show AtE (pwrite (pfeed s (clC b)) (bnat (sB l))) [] ∧ (pwrite (pfeed s (clC b)) (bnat (sB l))).done = true
    by_cases hl : l = []
    · subst hl; exact ⟨h1, hk⟩
    · exact ih _ h1 hl
/-- what stands within -/
def wB (value : Bool) (ks : List Bool) : ByteArray := if value = true ∨ ks = [] ∨ ks.getLast? = some false then ⟨#[48]⟩ else ⟨#[]⟩
theorem deep_full (ks : List Bool) (hl : ks.length ≤ 128) (value : Bool) :
    pclose (pwrite Sc0 (bnat (oB ks ++ wB value ks ++ sB ks))) = 0 ∧ (pwrite Sc0 (bnat (oB ks ++ wB value ks ++ sB ks))).size = (oB ks).size + (wB value ks).size + (sB ks).size ∧ (pwrite Sc0 (bnat (oB ks ++ wB value ks ++ sB ks))).open_ = [] := by
  have ha := open_all ks hl
  have hw : AtE (pwrite (pwrite Sc0 (bnat (oB ks))) (bnat (wB value ks))) ks := by
    generalize pwrite Sc0 (bnat (oB ks)) = s at *
    unfold wB
    by_cases h : value = true ∨ ks = [] ∨ ks.getLast? = some false
    · rw [if_pos h]
      have e : pwrite s (bnat ⟨#[48]⟩) = sTell (sTo s jZero true) 0 (s.size + 1) := pfeed_ok s _ 48 ha.1 ((at_open s ks ha 48 (by decide)).trans (value_48 s))
      rw [e]
      exact ⟨rfl, ha.2.1, .inl rfl, fun _ => rfl⟩
    · rw [if_neg h]
      have hks : ∃ l, ks = l ++ [true] := by
        rcases ha.2.2.2.1 with hk | ⟨-, h2⟩
        · rcases ha.2.2.2.2 hk with h3 | ⟨l, h3⟩
          · exact absurd (.inr (.inl h3)) h
          · exact absurd (.inr (.inr (by rw [h3]; simp))) h
        · exact h2
      refine ⟨ha.1, ha.2.1, .inr (.inr ⟨?_, hks⟩), ?_⟩
      · rcases ha.2.2.2.1 with hk | ⟨h2, -⟩
        · rcases ha.2.2.2.2 hk with h3 | ⟨l, h3⟩
          · exact absurd (.inr (.inl h3)) h
          · exact absurd (.inr (.inr (by rw [h3]; simp))) h
        · exact h2
      · intro hz
        exfalso
        rcases ha.2.2.2.1 with hk | ⟨hk, -⟩
        · rcases hz with hz | hz
          · exact absurd (hk.symm.trans hz) (by decide)
          · exact absurd (hk.symm.trans hz) (by decide)
        · rcases hz with hz | hz
          · exact absurd (hk.symm.trans hz) (by decide)
          · exact absurd (hk.symm.trans hz) (by decide)
  have hrun : pwrite Sc0 (bnat (oB ks ++ wB value ks ++ sB ks)) = pwrite (pwrite (pwrite Sc0 (bnat (oB ks))) (bnat (wB value ks))) (bnat (sB ks)) := by
    rw [bnat_app, bnat_app, pwrite_app, pwrite_app]
  have hend : (pwrite Sc0 (bnat (oB ks ++ wB value ks ++ sB ks))).bad = 0 ∧ (pwrite Sc0 (bnat (oB ks ++ wB value ks ++ sB ks))).open_ = [] ∧ (pwrite Sc0 (bnat (oB ks ++ wB value ks ++ sB ks))).done = true := by
    rw [hrun]
    by_cases hk : ks = []
    · subst hk
      refine ⟨hw.1, hw.2.1, ?_⟩
      have hd := hw.2.2.2
      rcases hw.2.2.1 with h2 | h2 | ⟨-, l, h2⟩
      · exact hd (.inl h2)
      · exact hd (.inr h2)
      · simp at h2
    · obtain ⟨h1, h2⟩ := shut_all ks _ hw hk
      exact ⟨h1.1, h1.2.1, h2⟩
  refine ⟨?_, ?_, hend.2.1⟩
  · unfold pclose; rw [if_pos hend.1, if_pos ⟨hend.2.2, hend.2.1⟩]
  · rw [(write_full Sc0 _ hend.1).2, bnat_len]
    show (0 : Int) + _ = _
    simp
end Go.Proofs.YtjfeebbhkolmoaaDoor
