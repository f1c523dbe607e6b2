/- Plain side of DecimalCompares: the program's size and the reference's give the same. -/
namespace Go.Proofs.YtgckfilmhnapeaaDoor
def sgn (x : Int) : Int := if x < 0 then -1 else if 0 < x then 1 else 0
/-- decimal.size where the first Point is not the greater one; c: the digits against each other -/
def sizeUp (p : Int) (n : Nat) (q : Int) (m : Nat) (c : Int) : Int :=
  if 1099511627776 < q - p then -1 else if sgn ((m : Int) - n - (q - p)) ≠ 0 then sgn ((m : Int) - n - (q - p)) else c
def sizeP (p : Int) (n : Nat) (q : Int) (m : Nat) (c : Int) : Int := if q < p then - sizeUp q m p n (-c) else sizeUp p n q m c
/-- crucibleref07.size; hp, hq: the halves of the Points, cut towards nought -/
def sizeR (p hp : Int) (n : Nat) (q hq : Int) (m : Nat) (c : Int) : Int :=
  if 1099511627776 < hp - hq then 1 else if hp - hq < -1099511627776 then -1
  else if p - q - n + m ≠ 0 then (if p - q - n + m < 0 then -1 else 1) else c
theorem size_law (p q hp hq : Int) (n m : Nat) (hn : n ≤ 1048576) (hm : m ≤ 1048576) (c : Int) (h1 : 2 * hp ≤ p + 1) (h2 : p - 1 ≤ 2 * hp) (h3 : 2 * hq ≤ q + 1) (h4 : q - 1 ≤ 2 * hq) :
    sizeP p n q m c = sizeR p hp n q hq m c := by
  unfold sizeP sizeR sizeUp sgn
  repeat' split
  all_goals omega
/-- the whole: signs first; s, t: is there a digit; nega, negb -/
def signN (neg some : Bool) : Int := if some = false then 0 else if neg = true then -1 else 1
def cmpP (na sa nb sb : Bool) (z : Int) : Int := if signN na sa ≠ signN nb sb ∨ signN na sa = 0 then sgn (signN na sa - signN nb sb) else signN na sa * z
def cmpR (na sa nb sb : Bool) (z : Int) : Int :=
  if sa = false ∧ sb = false then 0
  else if (sa = false ∧ nb = true) ∨ (sb = false ∧ na = false) ∨ (sa = true ∧ sb = true ∧ na = false ∧ nb = true) then 1
  else if sa = false ∨ sb = false ∨ na ≠ nb then -1
  else if na = true then -z else z
theorem cmp_law (na sa nb sb : Bool) (z : Int) : cmpP na sa nb sb z = cmpR na sa nb sb z := by
  cases na <;> cases sa <;> cases nb <;> cases sb <;> simp [cmpP, cmpR, signN, sgn]
end Go.Proofs.YtgckfilmhnapeaaDoor
