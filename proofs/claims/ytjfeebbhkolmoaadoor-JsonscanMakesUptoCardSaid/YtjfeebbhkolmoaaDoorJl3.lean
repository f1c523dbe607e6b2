/- Plain law: lists and maps made of JSON texts. -/
import Derived.Test.YtjfeebbhkolmoaaDoorJl1
import Derived.Test.YtjfeebbhkolmoaaDoorJl2
import Derived.Test.YtjfeebbhkolmoaaDoorJsG
import Derived.Test.YtjfeebbhkolmoaaDoorWCuts
namespace Go.Proofs.YtjfeebbhkolmoaaDoor.E
open Go.RowKit
set_option linter.unusedVariables false

/-- a value that has ended is told so in the state -/
def Dk (s : Sc) : Prop := s.done = true → s.k ∈ endK
theorem dk_to (s : Sc) (k : Nat) : Dk (sTo s k false) := fun e => absurd (show false = true from e) (by decide)
theorem dk_end (s : Sc) (k : Nat) (hk : k ∈ endK) : Dk (sTo s k true) := fun _ => hk
theorem dk_after (s : Sc) (c : Nat) (h : Dk s) : Dk (pAfter s c).1 := by
  unfold pAfter
  repeat' split
  all_goals first | exact h | exact dk_to _ _ | exact dk_end _ _ (by decide)
theorem dk_value (s : Sc) (c : Nat) (h : Dk s) : Dk (pValue s c).1 := by
  unfold pValue
  repeat' split
  all_goals first | exact h | exact dk_to _ _ | exact dk_end _ _ (by decide)
theorem dk_keys (s : Sc) (c : Nat) (h : Dk s) : Dk (pKeys s c).1 := by
  unfold pKeys
  repeat' split
  all_goals first | exact h | exact dk_to _ _ | exact dk_end _ _ (by decide)
theorem dk_fraction (s : Sc) (c : Nat) (h : Dk s) : Dk (pFraction s c).1 := by
  unfold pFraction
  split
  · exact dk_to _ _
  · exact dk_after s c h
theorem dk_zero (s : Sc) (c : Nat) (h : Dk s) : Dk (pZero s c).1 := by
  unfold pZero
  split
  · exact dk_to _ _
  · exact dk_fraction s c h
theorem dk_power (s : Sc) (c : Nat) (h : Dk s) : Dk (pPower s c).1 := by
  unfold pPower
  split
  · exact dk_end _ _ (by decide)
  · exact h
theorem dk_step (s : Sc) (c : Nat) (hk : s.k ∈ jAll) (h : Dk s) : Dk (pstep s c).1 := by
  unfold jAll at hk
  simp only [List.mem_cons, List.not_mem_nil, or_false] at hk
  rcases hk with e | e | e | e | e | e | e | e | e | e | e | e | e | e | e | e | e | e | e | e | e
  · rw [ps_Value s c e]; exact dk_value s c h
  · rw [ps_FirstItem s c e]; unfold pFirstItem; split
    · exact dk_after s _ h
    · exact dk_value s c h
  · rw [ps_FirstKey s c e]; unfold pFirstKey; split
    · exact dk_after s _ h
    · exact dk_keys s c h
  · rw [ps_Keys s c e]; exact dk_keys s c h
  · rw [ps_Colon s c e]; unfold pColon
    repeat' split
    all_goals first | exact h | exact dk_to _ _ | exact dk_end _ _ (by decide)
  · rw [ps_After s c e]; exact dk_after s c h
  · rw [ps_Word s c e]; unfold pWord
    repeat' split
    all_goals first | exact h | exact dk_to _ _ | exact dk_end _ _ (by decide)
  · rw [ps_Minus s c e]; unfold pMinus
    repeat' split
    all_goals first | exact h | exact dk_to _ _ | exact dk_end _ _ (by decide)
  · rw [ps_Zero s c e]; exact dk_zero s c h
  · rw [ps_Digits s c e]; unfold pDigits; split
    · exact h
    · exact dk_zero s c h
  · rw [ps_Point s c e]; unfold pPoint
    repeat' split
    all_goals first | exact h | exact dk_to _ _ | exact dk_end _ _ (by decide)
  · rw [ps_Behind s c e]; unfold pBehind; split
    · exact h
    · exact dk_fraction s c h
  · rw [ps_Sign s c e]; unfold pSign; split
    · exact dk_to _ _
    · exact dk_power s c h
  · rw [ps_Power s c e]; exact dk_power s c h
  · rw [ps_Powers s c e]; unfold pPowers; split
    · exact h
    · exact dk_after s c h
  · rw [ps_Text s c e]; unfold pText
    repeat' split
    all_goals first | exact h | exact dk_to _ _ | exact dk_end _ _ (by decide)
  · rw [ps_Follow s c e]; unfold pFollow
    repeat' split
    all_goals first | exact h | exact dk_to _ _ | exact dk_end _ _ (by decide)
  · rw [ps_Stroke s c e]; unfold pStroke
    repeat' split
    all_goals first | exact h | exact dk_to _ _ | exact dk_end _ _ (by decide)
  · rw [ps_Hex s c e]; unfold pHex
    simp only []
    repeat' split
    all_goals first | exact h | exact dk_to _ _ | exact dk_end _ _ (by decide)
  · rw [ps_Second s c e]; unfold pSecond
    repeat' split
    all_goals first | exact h | exact dk_to _ _ | exact dk_end _ _ (by decide)
  · rw [ps_Letter s c e]; unfold pLetter
    repeat' split
    all_goals first | exact h | exact dk_to _ _ | exact dk_end _ _ (by decide)
theorem feed_zero {s : Sc} {c : Nat} (h : (pfeed s c).bad = 0) : s.bad = 0 ∧ (pstep s c).2 = 0 ∧ pfeed s c = sTell (pstep s c).1 0 ((pstep s c).1.size + 1) := by
  have h0 := (feed_full s c h).1
  have hun : pfeed s c = sTell (pstep s c).1 (pstep s c).2 (if (pstep s c).2 = 0 then (pstep s c).1.size + 1 else (pstep s c).1.size) := if_pos h0
  rw [hun] at h
  have h2 : (pstep s c).2 = 0 := h
  rw [hun, if_pos h2, h2]
  exact ⟨h0, rfl, rfl⟩
theorem dk_write : ∀ (l : List Nat) (s : Sc), Good s → Dk s → (pwrite s l).bad = 0 → Dk (pwrite s l) := by
  intro l
  induction l with
  | nil => intro s _ h _; exact h
  | cons x l ih =>
    intro s hg h hb
    have h1 := (write_full (pfeed s x) l hb).1
    obtain ⟨h0, h2, h3⟩ := feed_zero h1
    have hd := dk_step s x (hg.2 h0).st h
    exact ih (pfeed s x) (feed_good s x hg) (by rw [h3]; exact hd) hb

def NoOver (n : Nat) : Sc → List Nat → Prop
  | _, [] => True
  | p, c :: l => ¬ Over n p c ∧ NoOver n (pfeed p c) l
theorem sh_tell {B : List Nat} {p q : Sc} (h : Sh B p q) (b b' : Nat) (z z' : Int) : Sh B (sTell p b z) (sTell q b' z') := ⟨h.k, h.op, h.dn, h.wd, h.ky, h.fo, h.hx⟩
theorem sh_run (B : List Nat) : ∀ (l : List Nat) (p q : Sc), Sh B p q → Good p → q.bad = 0 → (pwrite p l).bad = 0 →
    (NoOver B.length p l → (pwrite q l).bad = 0 ∧ Sh B (pwrite p l) (pwrite q l)) ∧ (¬ NoOver B.length p l → (pwrite q l).bad = 5) := by
  intro l
  induction l with
  | nil => intro p q h _ hq _; exact ⟨fun _ => ⟨hq, h⟩, fun hn => absurd trivial hn⟩
  | cons x l ih =>
    intro p q h hg hq hb
    have h1 := (write_full (pfeed p x) l hb).1
    obtain ⟨h0, h2, h3⟩ := feed_zero h1
    have hs := sh_step h (hg.2 h0).st x h2
    by_cases hov : Over B.length p x
    · have h5 := hs.1 hov
      have hw : (pwrite q (x :: l)).bad = 5 := by
        have hf := pfeed_no q (pstep q x).1 x 5 (by decide) hq (by rw [← h5])
        show (pwrite (pfeed q x) l).bad = 5
        rw [hf, pwrite_bad _ _ (by show (5 : Nat) ≠ 0; decide)]; rfl
      exact ⟨fun hn => absurd hov hn.1, fun _ => hw⟩
    · obtain ⟨h4, h5⟩ := hs.2 hov
      have hf := pfeed_ok q (pstep q x).1 x hq (by rw [← h4])
      have hsh : Sh B (pfeed p x) (pfeed q x) := by rw [h3, hf]; exact sh_tell h5 _ _ _ _
      obtain ⟨a1, a2⟩ := ih (pfeed p x) (pfeed q x) hsh (feed_good p x hg) (by rw [hf]; rfl) hb
      exact ⟨fun hn => a1 hn.2, fun hn => a2 (fun h6 => hn ⟨hov, h6⟩)⟩

theorem sh_start (B : List Nat) (q : Sc) (hk : q.k = jValue ∨ q.k = jFirstItem) (ho : q.open_ = B) (hd : q.done = false) : Sh B Sc0 q :=
  ⟨by rcases hk with hk | hk
      · exact .inl hk
      · exact .inr ⟨rfl, hk⟩, by rw [ho]; show B = B ++ []; rw [List.append_nil], hd, fun e => absurd (show jValue = jWord from e) (by decide), fun e => absurd (show jValue ∈ litK from e) (by decide), fun e => absurd (show jValue = jFollow from e) (by decide), fun e => absurd (show jValue = jHex from e) (by decide)⟩
/-- a JSON text -/
def Whole (s : ByteArray) : Prop := pclose (prd s) = 0
theorem Whole.all {s : ByteArray} (h : Whole s) : (prd s).bad = 0 ∧ (prd s).done = true ∧ (prd s).open_ = [] ∧ (prd s).k ∈ endK := by
  unfold Whole pclose at h
  by_cases hb : (prd s).bad = 0
  · rw [if_pos hb] at h
    by_cases hd : (prd s).done = true ∧ (prd s).open_ = []
    · exact ⟨hb, hd.1, hd.2, dk_write _ _ Sc0_good (fun e => absurd (show false = true from e) (by decide)) hb hd.1⟩
    · rw [if_neg hd] at h; exact absurd h (by decide)
  · rw [if_neg hb] at h; exact absurd h hb
/-- a whole text within one bracket more -/
theorem within_one (b : Nat) (s : ByteArray) (hw : Whole s) (q : Sc) (hk : q.k = jValue ∨ q.k = jFirstItem) (ho : q.open_ = [b]) (hd : q.done = false) (hq : q.bad = 0) :
    (NoOver 1 Sc0 (bnat s) → (pwrite q (bnat s)).bad = 0 ∧ (pwrite q (bnat s)).k ∈ endK ∧ (pwrite q (bnat s)).open_ = [b]) ∧ (¬ NoOver 1 Sc0 (bnat s) → (pwrite q (bnat s)).bad = 5) := by
  obtain ⟨w1, w2, w3, w4⟩ := hw.all
  obtain ⟨a1, a2⟩ := sh_run [b] (bnat s) Sc0 q (sh_start [b] q hk ho hd) Sc0_good hq w1
  refine ⟨fun hn => ?_, a2⟩
  obtain ⟨b1, b2⟩ := a1 hn
  refine ⟨b1, ?_, ?_⟩
  · rcases b2.k with e | ⟨e, -⟩
    · rw [e]; exact w4
    · have : jValue ∈ endK := by rw [← e]; exact w4
      exact absurd this (by decide)
  · have := b2.op
    rw [this]
    show [b] ++ (prd s).open_ = [b]
    rw [w3]; rfl
/-- the state behind a value: as 'after' has it, for signs -/
theorem end_step (s : Sc) (hk : s.k ∈ endK) (c : Nat) (h : c = 44 ∨ c = 93 ∨ c = 125) : pstep s c = pAfter s c := by
  have hd : digitB c = false := by rcases h with rfl | rfl | rfl <;> rfl
  have hf : pFraction s c = pAfter s c := by unfold pFraction; rw [if_neg (by omega)]
  have hz : pZero s c = pAfter s c := by unfold pZero; rw [if_neg (by omega), hf]
  unfold endK at hk
  simp only [List.mem_cons, List.not_mem_nil, or_false] at hk
  rcases hk with e | e | e | e | e
  · exact ps_After s c e
  · rw [ps_Zero s c e, hz]
  · rw [ps_Digits s c e]; unfold pDigits; rw [hd, if_neg (by decide), hz]
  · rw [ps_Behind s c e]; unfold pBehind; rw [hd, if_neg (by decide), hf]
  · rw [ps_Powers s c e]; unfold pPowers; rw [hd, if_neg (by decide)]
theorem top_one (s : Sc) (b c : Nat) (ho : s.open_ = [b]) : topIs s c = decide (b = c) := by
  unfold topIs
  rw [ho]
  by_cases h : b = c
  · subst h; simp
  · simp [h]
theorem comma_list (s : Sc) (hb : s.bad = 0) (hk : s.k ∈ endK) (ho : s.open_ = [91]) : pfeed s 44 = sTell (sTo s jValue false) 0 (s.size + 1) := by
  refine pfeed_ok s (sTo s jValue false) 44 hb ?_
  rw [end_step s hk 44 (.inl rfl)]
  unfold pAfter
  rw [if_neg (by decide), if_neg (by rw [ho]; decide), if_pos rfl, if_pos (by rw [top_one s 91 91 ho]; rfl)]
theorem comma_map (s : Sc) (hb : s.bad = 0) (hk : s.k ∈ endK) (ho : s.open_ = [123]) : pfeed s 44 = sTell (sTo s jKeys false) 0 (s.size + 1) := by
  refine pfeed_ok s (sTo s jKeys false) 44 hb ?_
  rw [end_step s hk 44 (.inl rfl)]
  unfold pAfter
  rw [if_neg (by decide), if_neg (by rw [ho]; decide), if_pos rfl, if_neg (by rw [top_one s 123 91 ho]; decide)]
theorem shut_list (s : Sc) (hb : s.bad = 0) (hk : s.k ∈ endK) (ho : s.open_ = [91]) : pclose (pfeed s 93) = 0 := by
  have : pfeed s 93 = sTell (sTo (sShut s) jAfter true) 0 (s.size + 1) := by
    refine pfeed_ok s (sTo (sShut s) jAfter true) 93 hb ?_
    rw [end_step s hk 93 (.inr (.inl rfl))]
    unfold pAfter
    rw [if_neg (by decide), if_neg (by rw [ho]; decide), if_neg (by decide), if_pos (.inl ⟨rfl, by rw [top_one s 91 91 ho]; rfl⟩)]
  rw [this]
  exact end_close ⟨rfl, by show s.open_.dropLast = []; rw [ho]; rfl, rfl, rfl⟩
theorem shut_map (s : Sc) (hb : s.bad = 0) (hk : s.k ∈ endK) (ho : s.open_ = [123]) : pclose (pfeed s 125) = 0 := by
  have : pfeed s 125 = sTell (sTo (sShut s) jAfter true) 0 (s.size + 1) := by
    refine pfeed_ok s (sTo (sShut s) jAfter true) 125 hb ?_
    rw [end_step s hk 125 (.inr (.inr rfl))]
    unfold pAfter
    rw [if_neg (by decide), if_neg (by rw [ho]; decide), if_neg (by decide), if_pos (.inr ⟨rfl, by rw [top_one s 123 123 ho]; rfl⟩)]
  rw [this]
  exact end_close ⟨rfl, by show s.open_.dropLast = []; rw [ho]; rfl, rfl, rfl⟩
theorem bad5 (s : Sc) (l : List Nat) (h : s.bad = 5) : (pwrite s l).bad = 5 ∧ pclose (pwrite s l) = 5 := by
  rw [pwrite_bad s l (by rw [h]; decide)]
  refine ⟨h, ?_⟩
  unfold pclose
  rw [if_neg (by rw [h]; decide)]; exact h

def sqO : ByteArray := ⟨#[91]⟩
def sqC : ByteArray := ⟨#[93]⟩
def cuO : ByteArray := ⟨#[123]⟩
def cuC : ByteArray := ⟨#[125]⟩
def comS : ByteArray := ⟨#[44]⟩
def colS : ByteArray := ⟨#[58]⟩
def colW : ByteArray := ⟨#[32, 58, 32]⟩
def q91 : Sc := pfeed Sc0 91
theorem q91_is : q91.k = jFirstItem ∧ q91.open_ = [91] ∧ q91.done = false ∧ q91.bad = 0 ∧ q91.size = 1 := by decide +kernel
def q123 : Sc := pfeed Sc0 123
theorem q123_is : q123.k = jFirstKey ∧ q123.open_ = [123] ∧ q123.done = false ∧ q123.bad = 0 ∧ q123.size = 1 := by decide +kernel
def listS (a b : ByteArray) : ByteArray := sqO ++ a ++ comS ++ b ++ sqC
theorem law_list (a b : ByteArray) (ha : Whole a) (hb : Whole b) :
    (NoOver 1 Sc0 (bnat a) ∧ NoOver 1 Sc0 (bnat b) → pclose (prd (listS a b)) = 0) ∧ (¬ (NoOver 1 Sc0 (bnat a) ∧ NoOver 1 Sc0 (bnat b)) → pclose (prd (listS a b)) = 5) := by
  obtain ⟨k1, k2, k3, k4, k5⟩ := q91_is
  have hp : prd (listS a b) = pwrite (pwrite (pfeed (pwrite q91 (bnat a)) 44) (bnat b)) [93] := by
    unfold prd listS
    rw [bnat_app, bnat_app, bnat_app, bnat_app, pwrite_app, pwrite_app, pwrite_app, pwrite_app]
    rfl
  obtain ⟨a1, a2⟩ := within_one 91 a ha q91 (.inr k1) k2 k3 k4
  rw [hp]
  by_cases hna : NoOver 1 Sc0 (bnat a)
  · obtain ⟨b1, b2, b3⟩ := a1 hna
    have hc := comma_list _ b1 b2 b3
    obtain ⟨c1, c2⟩ := within_one 91 b hb (pfeed (pwrite q91 (bnat a)) 44) (.inl (by rw [hc]; rfl)) (by rw [hc]; exact b3) (by rw [hc]; rfl) (by rw [hc]; rfl)
    by_cases hnb : NoOver 1 Sc0 (bnat b)
    · obtain ⟨d1, d2, d3⟩ := c1 hnb
      exact ⟨fun _ => shut_list _ d1 d2 d3, fun hn => absurd ⟨hna, hnb⟩ hn⟩
    · exact ⟨fun h => absurd h.2 hnb, fun _ => (bad5 _ [93] (c2 hnb)).2⟩
  · refine ⟨fun h => absurd h.1 hna, fun _ => ?_⟩
    have h5 := a2 hna
    have e1 : pfeed (pwrite q91 (bnat a)) 44 = pwrite q91 (bnat a) := if_neg (by rw [h5]; decide)
    rw [e1]
    exact (bad5 _ [93] (bad5 _ (bnat b) h5).1).2

/-- a key, where one may come -/
theorem law_key (s : ByteArray) (t : List Nat) (hs : scanQ s 0 = .ok (t, s.size)) (p : Sc) (hk : p.k = jFirstKey ∨ p.k = jKeys) (hb : p.bad = 0) :
    (pwrite p (bnat s)).bad = 0 ∧ (pwrite p (bnat s)).open_ = p.open_ ∧ (pwrite p (bnat s)).k = jColon ∧ (pwrite p (bnat s)).done = false := by
  have hq : 0 < s.size ∧ bt s 0 = 34 := by
    by_cases h : s.size ≤ 0 ∨ bt s 0 ≠ 34
    · unfold scanQ at hs; rw [if_pos h] at hs; cases hs
    · omega
  obtain ⟨h0, hq⟩ := hq
  rw [← scan_law s 0 (Nat.zero_le _)] at hs
  obtain ⟨x, m, hm⟩ : ∃ x m, bnat s = x :: m := by
    rcases hb : bnat s with _ | ⟨x, m⟩
    · have := bnat_len s; rw [hb] at this; simp at this; omega
    · exact ⟨x, m, rfl⟩
  have hlen : s.size = m.length + 1 := by rw [← bnat_len, hm]; rfl
  have hx : x = 34 := by rw [← hq, bt_bnat s 0 h0, hm]; rfl
  subst hx
  have hkeys : pKeys p 34 = (sTo (sKey p true) jText false, 0) := rfl
  have hp : pstep p 34 = (sTo (sKey p true) jText false, 0) := by
    rcases hk with hk | hk
    · rw [ps_FirstKey p 34 hk]; exact hkeys
    · rw [ps_Keys p 34 hk]; exact hkeys
  have hf := pfeed_ok p _ 34 hb hp
  have hw : ∀ l, pwrite p (34 :: l) = pwrite (sTell (sTo (sKey p true) jText false) 0 (p.size + 1)) l := by
    intro l
    show pwrite (pfeed p 34) l = _
    rw [hf]; rfl
  have hl : LitE (sTell (sTo (sKey p true) jText false) 0 (p.size + 1)) { StZ with mode := 1 } :=
    ⟨rfl, ⟨.inr (.inl rfl), .inl rfl, fun e => absurd (show (1 : Int) = 3 from e) (by decide), fun e => absurd (show (1 : Int) = 6 from e) (by decide)⟩, .inl ⟨rfl, rfl, rfl⟩⟩
  have hrun := lit_run (bt s) m 1 _ _ hl rfl (fun k hk => by
    rw [bt_bnat s (1 + k) (by omega), hm, show 1 + k = k + 1 by omega]; simp)
  have hscan : scanAt s 0 = scanG (bt s) m.length 1 { StZ with mode := 1 } := by
    unfold scanAt
    rw [show s.size - 0 = m.length + 1 by omega]
    show (if (stepF StZ (bt s 0)).2 = false then Except.error 0 else if (stepF StZ (bt s 0)).1.mode = 7 then Except.ok ((stepF StZ (bt s 0)).1.text, 0 + 1) else scanG (bt s) m.length (0 + 1) (stepF StZ (bt s 0)).1) = scanG (bt s) m.length 1 { StZ with mode := 1 }
    rw [hq]
    rfl
  rw [hscan] at hs
  rw [hs] at hrun
  obtain ⟨e1, e2, e3, e4, e5, e6, e7⟩ := hrun
  have ht : m.take (s.size - 1) = m := List.take_of_length_le (by omega)
  rw [ht] at e3 e4 e5 e6 e7
  rw [hm, hw]
  exact ⟨e3, e5, e6, e7⟩
theorem colon_1 (s : Sc) (hb : s.bad = 0) (hk : s.k = jColon) : pfeed s 58 = sTell (sTo s jValue false) 0 (s.size + 1) :=
  pfeed_ok s (sTo s jValue false) 58 hb (by rw [ps_Colon s 58 hk]; rfl)
theorem colon_b (s : Sc) (hb : s.bad = 0) (hk : s.k = jColon) : pfeed s 32 = sTell s 0 (s.size + 1) :=
  pfeed_ok s s 32 hb (by rw [ps_Colon s 32 hk]; rfl)
theorem value_b (s : Sc) (hb : s.bad = 0) (hk : s.k = jValue) : pfeed s 32 = sTell s 0 (s.size + 1) :=
  pfeed_ok s s 32 hb (by rw [ps_Value s 32 hk]; rfl)
def pairS (k a b : ByteArray) : ByteArray := cuO ++ k ++ colS ++ a ++ comS ++ k ++ colW ++ b ++ cuC
theorem prd_pair (k a b : ByteArray) : prd (pairS k a b) = pwrite (pwrite (pwrite (pwrite (pwrite (pwrite (pwrite (pwrite q123 (bnat k)) [58]) (bnat a)) [44]) (bnat k)) [32, 58, 32]) (bnat b)) [125] := by
  unfold prd pairS
  rw [bnat_app, bnat_app, bnat_app, bnat_app, bnat_app, bnat_app, bnat_app, bnat_app, pwrite_app, pwrite_app, pwrite_app, pwrite_app, pwrite_app, pwrite_app, pwrite_app, pwrite_app]
  rfl
theorem law_pair (k a b : ByteArray) (t : List Nat) (hs : scanQ k 0 = .ok (t, k.size)) (ha : Whole a) (hb : Whole b) (hna : NoOver 1 Sc0 (bnat a)) (hnb : NoOver 1 Sc0 (bnat b)) : pclose (prd (pairS k a b)) = 0 := by
  obtain ⟨k1, k2, k3, k4, k5⟩ := q123_is
  rw [prd_pair]
  obtain ⟨c1, c2, c3, c4⟩ := law_key k t hs q123 (.inl k1) k4
  have f1 := colon_1 _ c1 c3
  generalize pwrite q123 (bnat k) = s1 at *
  have e1 : pwrite s1 [58] = sTell (sTo s1 jValue false) 0 (s1.size + 1) := f1
  rw [e1]
  obtain ⟨d1, -⟩ := within_one 123 a ha (sTell (sTo s1 jValue false) 0 (s1.size + 1)) (.inl rfl) (c2.trans k2) rfl rfl
  obtain ⟨d2, d3, d4⟩ := d1 hna
  generalize pwrite (sTell (sTo s1 jValue false) 0 (s1.size + 1)) (bnat a) = s2 at *
  have e2 : pwrite s2 [44] = sTell (sTo s2 jKeys false) 0 (s2.size + 1) := comma_map s2 d2 d3 d4
  rw [e2]
  obtain ⟨g1, g2, g3, g4⟩ := law_key k t hs (sTell (sTo s2 jKeys false) 0 (s2.size + 1)) (.inr rfl) rfl
  have g2' : (pwrite (sTell (sTo s2 jKeys false) 0 (s2.size + 1)) (bnat k)).open_ = [123] := g2.trans d4
  clear g2
  generalize pwrite (sTell (sTo s2 jKeys false) 0 (s2.size + 1)) (bnat k) = s3 at *
  have e3 : ∃ z, pwrite s3 [32, 58, 32] = sTell (sTo s3 jValue false) 0 z := by
    have h1 : pwrite s3 [32, 58, 32] = pfeed (pfeed (pfeed s3 32) 58) 32 := rfl
    rw [h1, colon_b s3 g1 g3, colon_1 (sTell s3 0 (s3.size + 1)) rfl g3, value_b (sTell (sTo (sTell s3 0 (s3.size + 1)) jValue false) 0 ((sTell s3 0 (s3.size + 1)).size + 1)) rfl rfl]
    exact ⟨_, rfl⟩
  obtain ⟨z, e3⟩ := e3
  rw [e3]
  obtain ⟨m1, -⟩ := within_one 123 b hb (sTell (sTo s3 jValue false) 0 z) (.inl rfl) g2' rfl rfl
  obtain ⟨m2, m3, m4⟩ := m1 hnb
  exact shut_map _ m2 m3 m4
theorem law_nokey (a b : ByteArray) : pclose (prd (pairS ⟨#[]⟩ a b)) = 3 := by
  obtain ⟨k1, k2, k3, k4, k5⟩ := q123_is
  rw [prd_pair]
  have h0 : pwrite q123 (bnat ⟨#[]⟩) = q123 := rfl
  have h1 : pwrite q123 [58] = sTell q123 3 q123.size := pfeed_no q123 q123 58 3 (by decide) k4 (by rw [ps_FirstKey q123 58 k1]; rfl)
  rw [h0, h1]
  have hb : ∀ l, pwrite (sTell q123 3 q123.size) l = sTell q123 3 q123.size := fun l => pwrite_bad _ _ (by show (3 : Nat) ≠ 0; decide)
  rw [hb, hb, hb, hb, hb, hb]
  rfl
def oneS (a : ByteArray) : ByteArray := sqO ++ a
/-- what stands ahead of the place is a beginning behind a bracket too -/
theorem law_one (a : ByteArray) : pclose (prd (oneS a)) = 5 ∨ (prd a).size + 1 ≤ (prd (oneS a)).size := by
  obtain ⟨k1, k2, k3, k4, k5⟩ := q91_is
  obtain ⟨n, n1, n2, n3⟩ := write_good_part Sc0 (bnat a) rfl
  have hz : (prd a).size = (n : Int) := by
    have : (prd a).size = Sc0.size + (n : Int) := n2
    have h2 : Sc0.size = 0 := rfl
    omega
  have hp : prd (oneS a) = pwrite (pwrite q91 ((bnat a).take n)) ((bnat a).drop n) := by
    unfold prd oneS
    rw [bnat_app, pwrite_app, ← pwrite_app q91, List.take_append_drop]
    rfl
  obtain ⟨a1, a2⟩ := sh_run [91] ((bnat a).take n) Sc0 q91 (sh_start [91] q91 (.inr k1) k2 k3) Sc0_good k4 n3
  rw [hp]
  by_cases hn : NoOver 1 Sc0 ((bnat a).take n)
  · right
    obtain ⟨b1, -⟩ := a1 hn
    have h1 := (write_full q91 _ b1).2
    have h2 := (write_size (pwrite q91 ((bnat a).take n)) ((bnat a).drop n)).1
    rw [List.length_take, Nat.min_eq_left n1, k5] at h1
    omega
  · left
    exact (bad5 _ _ (a2 hn)).2
end Go.Proofs.YtjfeebbhkolmoaaDoor.E
