/- A jsonscan.Scanner in memory; what may turn beside it; the plain step of each of its states. -/
import Derived.Test.YtjfeebbhkolmoaaDoorRows
import Derived.Test.YtjfeebbhkolmoaaDoorNum
import Derived.WalkKit
import Derived.WalkLawsBesides
import Derived.WalkSpells
import Derived.ProofKit
import Derived.Outline
import Derived.Lib.Hide
import Derived.Deep.QuietTactic
import Derived.BigQuiet
import Derived.StillTailTactics
import Derived.Laws.EntriesVeiled
namespace Go.Proofs.YtjfeebbhkolmoaaDoor
open Go.RowKit
set_option linter.unusedVariables false

/-- but for the blocks of S, and new ones, the world is as it was -/
structure Keeps (S : Nat → Prop) (a w : World) : Prop where
  os : w.os = a.os
  tape : w.tape = a.tape
  output : w.output = a.output
  size : a.heap.size ≤ w.heap.size
  block : ∀ k, k < a.heap.size → ¬ S k → w.heap[k]? = a.heap[k]?
/-- of the blocks of S' none is another old one -/
def Fresh (a : World) (S S' : Nat → Prop) : Prop := ∀ k, S' k → S k ∨ a.heap.size ≤ k

section
variable {S S' : Nat → Prop} {a b w : World}
theorem Keeps.refl (S : Nat → Prop) (a : World) : Keeps S a a := ⟨rfl, rfl, rfl, Nat.le_refl _, fun _ _ _ => rfl⟩
theorem Fresh.refl (a : World) (S : Nat → Prop) : Fresh a S S := fun _ h => .inl h
theorem Keeps.trans (h : Keeps S a b) (k : Keeps S' b w) (hf : Fresh a S S') : Keeps S a w :=
  ⟨k.os.trans h.os, k.tape.trans h.tape, k.output.trans h.output, Nat.le_trans h.size k.size, fun i hi hn => (k.block i (Nat.lt_of_lt_of_le hi h.size) (fun hs => by
    rcases hf i hs with h1 | h1
    · exact hn h1
    · omega)).trans (h.block i hi hn)⟩
theorem Fresh.trans {S'' : Nat → Prop} (h : Fresh a S S') (hk : Keeps S a b) (k : Fresh b S' S'') : Fresh a S S'' := fun i hi => by
  rcases k i hi with h1 | h1
  · exact h i h1
  · exact .inr (Nat.le_trans hk.size h1)
theorem Keeps.drewN (h : Keeps S a w) (n : Nat) : Keeps S a (w.drewN n) := ⟨h.os, h.tape, h.output, h.size, h.block⟩
theorem Keeps.drew (h : Keeps S a w) : Keeps S a w.drew := ⟨h.os, h.tape, h.output, h.size, h.block⟩
theorem Keeps.alloc (h : Keeps S a w) (o : Obj) : Keeps S a (w.alloc o) :=
  ⟨h.os, h.tape, h.output, Nat.le_trans h.size (by simp), fun i hi hn => (Below.heap_alloc w o i (Nat.lt_of_lt_of_le hi h.size)).trans (h.block i hi hn)⟩
theorem Keeps.setCell (h : Keeps S a w) {p : Addr} (hp : S p.block ∨ a.heap.size ≤ p.block) (u : Value) : Keeps S a (w.setCell p u) :=
  ⟨h.os, h.tape, h.output, by simpa [World.setCell] using h.size, fun i hi hn => (Below.heap_setCell w p u i (by
    rintro rfl
    rcases hp with hp | hp
    · exact hn hp
    · omega)).trans (h.block i hi hn)⟩
theorem Keeps.grown {row : Option Nat} (h : Keeps S a w) {w' : World} (hg : w.grownBy w' row) (hr : ∀ k, row = some k → S k ∨ a.heap.size ≤ k) : Keeps S a w' :=
  ⟨hg.os.trans h.os, hg.tape.trans h.tape, hg.output.trans h.output, Nat.le_trans h.size hg.size, fun i hi hn => (hg.block i (Nat.lt_of_lt_of_le hi h.size) (fun e => by
    rcases hr i e.symm with hp | hp
    · exact hn hp
    · omega)).trans (h.block i hi hn)⟩
theorem Keeps.below_ {B : Nat} (h : Keeps S a w) (hS : ∀ i, S i → B ≤ i) (hB : B ≤ a.heap.size) : Below B a w :=
  ⟨h.os, h.tape, h.output, h.size, fun i hi => h.block i (by omega) (fun hs => by have := hS i hs; omega)⟩
theorem Keeps.of_below (h : Below a.heap.size a w) : Keeps S a w := ⟨h.os, h.tape, h.output, h.size, fun i hi _ => h.block i hi⟩
theorem Keeps.blk {g : Nat} {t : TypeId} {cs : Array Value} (h : Keeps S a w) (hb : Blk a g t cs) (hn : ¬ S g) : Blk w g t cs := (h.block g hb.lt hn).trans hb
end

theorem own_far' {w : World} {base size n g : Nat} {e : TypeId} {v : Value} {xs : List Value} (h : w.ownsRow base e size v n xs) (hne : v.ownBlock ≠ some g) (i : Nat) (u : Value) : (w.setCell ⟨g, i, none⟩ u).ownsRow base e size v n xs := by
  refine ⟨h.1, ?_⟩
  rcases h.2 with ⟨h1, h2⟩ | ⟨g', cap', cur, rfl, h1, h2, h3⟩
  · exact .inl ⟨h1, h2⟩
  · exact .inr ⟨g', cap', cur, rfl, h1, (Below.heap_setCell w ⟨g, i, none⟩ u g' (by intro k; exact hne (by rw [k]; rfl))).trans h2, h3⟩
theorem own_keeps {S : Nat → Prop} {a w : World} {base size n : Nat} {e : TypeId} {v : Value} {xs : List Value} (h : a.ownsRow base e size v n xs) (hk : Keeps S a w) (hn : ∀ i, v.ownBlock = some i → ¬ S i) : w.ownsRow base e size v n xs := by
  refine ⟨h.1, ?_⟩
  rcases h.2 with ⟨h1, h2⟩ | ⟨g', cap', cur, rfl, h1, h2, h3⟩
  · exact .inl ⟨h1, h2⟩
  · exact .inr ⟨g', cap', cur, rfl, h1, (hk.block g' (Array.getElem?_eq_some_iff.1 h2).1 (hn g' rfl)).trans h2, h3⟩
/-- a row without its last element -/
theorem own_cut {w : World} {base n c : Nat} {e : TypeId} {A : Option Addr} {xs : List Value} (h : w.ownsRow base e 1 (.slice A (n + 1) c) (n + 1) xs) : w.ownsRow base e 1 (.slice A n c) n (xs.take n) := by
  have hl := h.1
  refine ⟨by rw [List.length_take, hl]; omega, ?_⟩
  rcases h.2 with ⟨h1, h2⟩ | ⟨g', cap', cur, h0, h1, h2, h3, h4, h5, h6⟩
  · omega
  · injection h0 with e1 e2 e3
    subst e1 e3
    refine .inr ⟨g', c, cur, rfl, h1, h2, by omega, h4, h5, ?_⟩
    rw [← h6, List.take_take]
    congr 1
    omega
theorem vals_snoc (xs : List Nat) (c : Nat) : vals .u8 (xs ++ [c]) = vals .u8 xs ++ [.int .u8 (c : Int)] := by rw [vals_append, vals_one]
theorem one_cell_new (w : World) (t : TypeId) (v : Value) : ∀ (j : Nat) (u : Value), [v][j]? = some u → (w.alloc (.cells #[v] t)).cell? ((⟨w.heap.size, 0, none⟩ : Addr).add j) = some u := cell_one_new w _ _
theorem eqF {c : Nat} {n : Int} (h : (c : Int) ≠ n) : ((c : Int) == n) = false := by rw [beq_eq_false_iff_ne]; exact h
theorem info_u8 : (Tryd.prog.info? 5).map (fun i => (i.zero, i.size, i.bytes)) = some (some (.int .u8 0), 1, 1) := by kernel_rfl

/-- jsonscan's Scanner: k: the number of the function that comes next -/
structure Sc where
  k : Nat
  open_ : List Nat
  done : Bool
  size : Int
  bad : Nat
  rest : ByteArray
  key : Bool
  left : Nat
  low : Nat
  high : Nat
  unit : Nat
  pair : Bool

def scCells (g : Nat) (s : Sc) (v : Value) : Array Value :=
  #[.func (.func s.k) #[.pointer (some ⟨g, 0, none⟩)] #[], v, .bool s.done, .int .i64 s.size, .int .i64 (s.bad : Nat), .string s.rest, .bool s.key, .int .i64 (s.left : Nat), .int .u8 (s.low : Nat), .int .u8 (s.high : Nat), .int .i64 (s.unit : Nat), .bool s.pair]
/-- a Scanner lies in block g; its open brackets are a row of its own; S: these blocks -/
def ScAt (w : World) (S : Nat → Prop) (g : Nat) (s : Sc) : Prop :=
  ∃ v, Blk w g 45 (scCells g s v) ∧ w.ownsRow 0 5 1 v s.open_.length (vals .u8 s.open_) ∧ S = (fun i => i = g ∨ v.ownBlock = some i)
/-- what a call of its methods leaves -/
def ScPost (w : World) (S : Nat → Prop) (g : Nat) (r : Sc × Nat) (e : Ending) (w' : World) : Prop :=
  e = .returned (.int .i64 (r.2 : Nat)) ∧ ∃ S', ScAt w' S' g r.1 ∧ Keeps S w w' ∧ Fresh w S S'

theorem ScAt.ne {w : World} {g : Nat} {s : Sc} {v : Value} {n : Nat} {xs : List Value} (hB : Blk w g 45 (scCells g s v)) (ho : w.ownsRow 0 5 1 v n xs) : v.ownBlock ≠ some g := own_blk_ne ho hB (by decide)
theorem ScAt.store {w : World} {S : Nat → Prop} {g : Nat} {s : Sc} (h : ScAt w S g s) (i : Nat) (u : Value) (s' : Sc) (hc : ∀ v, (scCells g s v).setIfInBounds i u = scCells g s' v) (ho : s'.open_ = s.open_) : ScAt (w.setCell ⟨g, i, none⟩ u) S g s' := by
  obtain ⟨v, hb, hw, hS⟩ := h
  refine ⟨v, ?_, ?_, hS⟩
  · rw [← hc v]; exact hb.set_ i u
  · rw [ho]; exact own_far' hw (ScAt.ne hb hw) i u
theorem ScAt.drewN {w : World} {S : Nat → Prop} {g : Nat} {s : Sc} (h : ScAt w S g s) (n : Nat) : ScAt (w.drewN n) S g s := h
theorem ScAt.mem {w : World} {S : Nat → Prop} {g : Nat} {s : Sc} (h : ScAt w S g s) : S g := by
  obtain ⟨v, hb, hw, rfl⟩ := h
  exact .inl rfl
theorem ScAt.lt {w : World} {S : Nat → Prop} {g : Nat} {s : Sc} (h : ScAt w S g s) : ∀ i, S i → i < w.heap.size := by
  obtain ⟨v, hb, hw, rfl⟩ := h
  rintro i (rfl | h)
  · exact hb.lt
  · exact (hw.lt i h).2
/-- what happens elsewhere leaves a Scanner alone -/
theorem ScAt.keeps {w w' : World} {S T : Nat → Prop} {g : Nat} {s : Sc} (h : ScAt w S g s) (hk : Keeps T w w') (hn : ∀ i, S i → ¬ T i) : ScAt w' S g s := by
  obtain ⟨v, hb, hw, rfl⟩ := h
  exact ⟨v, hk.blk hb (hn g (.inl rfl)), own_keeps hw hk (fun i hi => hn i (.inr hi)), rfl⟩
theorem ScPost.after {w w1 w2 : World} {S S1 : Nat → Prop} {g : Nat} {r : Sc × Nat} {e : Ending} (hk : Keeps S w w1) (hf : Fresh w S S1) (h : ScPost w1 S1 g r e w2) : ScPost w S g r e w2 := by
  obtain ⟨he, S2, h1, h2, h3⟩ := h
  exact ⟨he, S2, h1, hk.trans h2 hf, hf.trans hk h3⟩
theorem ScPost.stay {w : World} {S : Nat → Prop} {g : Nat} {s : Sc} (h : ScAt w S g s) (c : Nat) : ScPost w S g (s, c) (.returned (.int .i64 (c : Nat))) w := ⟨rfl, S, h, Keeps.refl _ _, Fresh.refl _ _⟩

/-- the states by their functions' numbers -/
def jValue : Nat := 28
def jFirstItem : Nat := 45
def jFirstKey : Nat := 46
def jKeys : Nat := 68
def jColon : Nat := 69
def jAfter : Nat := 67
def jWord : Nat := 52
def jMinus : Nat := 48
def jZero : Nat := 49
def jDigits : Nat := 51
def jPoint : Nat := 72
def jBehind : Nat := 85
def jSign : Nat := 86
def jPower : Nat := 95
def jPowers : Nat := 101
def jText : Nat := 47
def jFollow : Nat := 71
def jStroke : Nat := 70
def jHex : Nat := 94
def jSecond : Nat := 100
def jLetter : Nat := 102

def blankB (c : Nat) : Bool := c == 32 || c == 10 || c == 13 || c == 9
def digitB (c : Nat) : Bool := decide (48 ≤ c) && decide (c ≤ 57)
def sTo (s : Sc) (k : Nat) (d : Bool) : Sc := { s with k := k, done := d }
def sOpen (s : Sc) (c : Nat) : Sc := { s with open_ := s.open_ ++ [c] }
def topIs (s : Sc) (c : Nat) : Bool := s.open_.getLast? == some c
def sShut (s : Sc) : Sc := { s with open_ := s.open_.dropLast }

def pAfter (s : Sc) (c : Nat) : Sc × Nat :=
  if blankB c = true then (sTo s jAfter true, 0)
  else if s.open_ = [] then (s, 3)
  else if c = 44 then (if topIs s 91 = true then (sTo s jValue false, 0) else (sTo s jKeys false, 0))
  else if (c = 93 ∧ topIs s 91 = true) ∨ (c = 125 ∧ topIs s 123 = true) then (sTo (sShut s) jAfter true, 0)
  else (s, 3)
def sRest (s : Sc) (r : ByteArray) : Sc := { s with rest := r }
def sKey (s : Sc) (b : Bool) : Sc := { s with key := b }
def strU : ByteArray := ⟨#[117, 108, 108]⟩
def strR : ByteArray := ⟨#[114, 117, 101]⟩
def strA : ByteArray := ⟨#[97, 108, 115, 101]⟩
def pValue (s : Sc) (c : Nat) : Sc × Nat :=
  if blankB c = true then (s, 0)
  else if c = 91 then (if s.open_.length = 128 then (s, 5) else (sTo (sOpen s 91) jFirstItem false, 0))
  else if c = 123 then (if s.open_.length = 128 then (s, 5) else (sTo (sOpen s 123) jFirstKey false, 0))
  else if c = 34 then (sTo (sKey s false) jText false, 0)
  else if c = 45 then (sTo s jMinus false, 0)
  else if c = 48 then (sTo s jZero true, 0)
  else if digitB c = true then (sTo s jDigits true, 0)
  else if c = 110 then (sTo (sRest s strU) jWord false, 0)
  else if c = 116 then (sTo (sRest s strR) jWord false, 0)
  else if c = 102 then (sTo (sRest s strA) jWord false, 0)
  else (s, 3)
def pFirstItem (s : Sc) (c : Nat) : Sc × Nat := if c = 93 then pAfter s 93 else pValue s c
def pKeys (s : Sc) (c : Nat) : Sc × Nat := if blankB c = true then (s, 0) else if c = 34 then (sTo (sKey s true) jText false, 0) else (s, 3)
def pFirstKey (s : Sc) (c : Nat) : Sc × Nat := if c = 125 then pAfter s 125 else pKeys s c
def pColon (s : Sc) (c : Nat) : Sc × Nat := if blankB c = true then (s, 0) else if c = 58 then (sTo s jValue false, 0) else (s, 3)
def pWord (s : Sc) (c : Nat) : Sc × Nat :=
  match s.rest.data.toList with
  | [] => (s, 3)
  | x :: l => if c = x.toNat then (if l = [] then (sTo (sRest s ⟨l.toArray⟩) jAfter true, 0) else (sRest s ⟨l.toArray⟩, 0)) else (s, 3)
def pMinus (s : Sc) (c : Nat) : Sc × Nat := if c = 48 then (sTo s jZero true, 0) else if digitB c = true then (sTo s jDigits true, 0) else (s, 3)
def pFraction (s : Sc) (c : Nat) : Sc × Nat := if c = 101 ∨ c = 69 then (sTo s jSign false, 0) else pAfter s c
def pZero (s : Sc) (c : Nat) : Sc × Nat := if c = 46 then (sTo s jPoint false, 0) else pFraction s c
def pDigits (s : Sc) (c : Nat) : Sc × Nat := if digitB c = true then (s, 0) else pZero s c
def pPoint (s : Sc) (c : Nat) : Sc × Nat := if digitB c = true then (sTo s jBehind true, 0) else (s, 3)
def pBehind (s : Sc) (c : Nat) : Sc × Nat := if digitB c = true then (s, 0) else pFraction s c
def pPower (s : Sc) (c : Nat) : Sc × Nat := if digitB c = true then (sTo s jPowers true, 0) else (s, 3)
def pSign (s : Sc) (c : Nat) : Sc × Nat := if c = 43 ∨ c = 45 then (sTo s jPower false, 0) else pPower s c
def pPowers (s : Sc) (c : Nat) : Sc × Nat := if digitB c = true then (s, 0) else pAfter s c
def lowJ (c : Nat) : Nat := if c = 224 then 160 else if c = 240 then 144 else 128
def highJ (c : Nat) : Nat := if c = 237 then 159 else if c = 244 then 143 else 191
def sBytes (s : Sc) (n lo hi : Nat) : Sc := { s with left := n, low := lo, high := hi }
def pText (s : Sc) (c : Nat) : Sc × Nat :=
  if c = 34 then (if s.key = true then (sTo s jColon false, 0) else (sTo s jAfter true, 0))
  else if c = 92 then (sTo s jStroke false, 0)
  else if c < 32 then (s, 3)
  else if c < 128 then (s, 0)
  else if c < 194 ∨ 244 < c then (sBytes s s.left 128 191, 3)
  else (sTo (sBytes s (if c < 224 then 1 else if c < 240 then 2 else 3) (lowJ c) (highJ c)) jFollow false, 0)
def pFollow (s : Sc) (c : Nat) : Sc × Nat :=
  if c < s.low ∨ s.high < c then (s, 3)
  else if s.left = 1 then (sTo (sBytes s 0 128 191) jText false, 0)
  else (sBytes s (s.left - 1) 128 191, 0)
def sNumber (s : Sc) (p : Bool) : Sc := sTo { s with left := 4, unit := 0, pair := p } jHex false
def pStroke (s : Sc) (c : Nat) : Sc × Nat :=
  if c = 34 ∨ c = 92 ∨ c = 47 ∨ c = 98 ∨ c = 102 ∨ c = 110 ∨ c = 114 ∨ c = 116 then (sTo s jText false, 0)
  else if c = 117 then (sNumber s false, 0)
  else (s, 3)
/-- a digit of base 16; 16: none -/
def hexD (c : Nat) : Nat := if 48 ≤ c ∧ c ≤ 57 then c - 48 else if 97 ≤ c ∧ c ≤ 102 then c - 87 else if 65 ≤ c ∧ c ≤ 70 then c - 55 else 16
def sUnit (s : Sc) (n u : Nat) : Sc := { s with left := n, unit := u }
def pHex (s : Sc) (c : Nat) : Sc × Nat :=
  if hexD c = 16 then (s, 3)
  else
    let u := 16 * s.unit + hexD c
    let t := sUnit s (s.left - 1) u
    if s.left = 4 ∧ s.pair = true ∧ u ≠ 13 then (t, 3)
    else if s.left = 3 ∧ s.pair ≠ decide (u / 4 = 55) then (t, 3)
    else if 1 < s.left then (t, 0)
    else if u / 1024 = 54 then (sTo t jSecond false, 0)
    else (sTo t jText false, 0)
def pSecond (s : Sc) (c : Nat) : Sc × Nat := if c = 92 then (sTo s jLetter false, 0) else (s, 3)
def pLetter (s : Sc) (c : Nat) : Sc × Nat := if c = 117 then (sNumber s true, 0) else (s, 3)
end Go.Proofs.YtjfeebbhkolmoaaDoor
