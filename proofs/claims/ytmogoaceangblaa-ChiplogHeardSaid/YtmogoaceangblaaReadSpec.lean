/- What packed bytes are read to, in plain lists: entries, cycles, the bytes used; or an error's number. -/
import Derived.Test.YtmogoaceangblaaPackSpec
namespace Go.Proofs.Ytmogoaceangblaa
open Go.RowKit

abbrev Rd (α : Type) := Sum Int α
def putL (log : List (List Int)) (cyc : List Int) (x : List Int) (c : Int) : Rd (List (List Int) × List Int) :=
  if log.length = 4000 then .inl 4 else .inr (log ++ [x], cyc ++ [c])
def runsL (x : List Int) : Nat → List (List Int) → List Int → Rd (List (List Int) × List Int)
  | 0, log, cyc => .inr (log, cyc)
  | k + 1, log, cyc => match putL log cyc x 6 with
    | .inl e => .inl e
    | .inr (l, c) => runsL x k l c
def repsL (d : Nat) : Nat → Int → List (List Int) → List Int → Rd (List (List Int) × List Int)
  | 0, _, log, cyc => .inr (log, cyc)
  | k + 1, cost, log, cyc => match putL log cyc (log.getD (log.length - d) []) cost with
    | .inl e => .inl e
    | .inr (l, c) => repsL d k 10 l c
/-- A register's new value, which must be another one. -/
def writeL (b : List Int) (at_ : Nat) (x : List Int) (r : Nat) : Rd (Nat × List Int) :=
  match b[at_]? with
  | none => .inl 12
  | some v => if v = x.getD r 0 then .inl 9 else .inr (at_ + 1, x.set r v)
/-- The registers from 14 - m on of a mask; n counts those that were written. -/
def someL (b : List Int) (mask : Nat) : Nat → Nat → List Int → Nat → Rd (Nat × List Int × Nat)
  | 0, at_, x, n => .inr (at_, x, n)
  | m + 1, at_, x, n => if mask.testBit (13 - m) then
      match writeL b at_ x (13 - m) with
      | .inl e => .inl e
      | .inr (a, y) => someL b mask m a y (n + 1)
    else someL b mask m at_ x n
def lastOf (log : List (List Int)) : List Int := prev log log.length
abbrev St := Nat × List (List Int) × List Int
def manyL (b : List Int) (at_ : Nat) (log : List (List Int)) (cyc : List Int) : Rd St :=
  match b[at_]?, b[at_ + 1]? with
  | some lo, some hi =>
    if lo + 256 * hi = 0 ∨ 16384 ≤ lo + 256 * hi then .inl 9
    else match someL b (lo + 256 * hi).toNat 14 (at_ + 2) (lastOf log) 0 with
      | .inl e => .inl e
      | .inr (a, x, n) => match putL log cyc x (20 + 6 * (n : Int)) with
        | .inl e => .inl e
        | .inr (l, c) => .inr (a, l, c)
  | _, _ => .inl 12
def cmdL (b : List Int) (c : Int) (at_ : Nat) (log : List (List Int)) (cyc : List Int) : Rd St :=
  if c ≤ 127 then
    match runsL (lastOf log) c.toNat log cyc with
    | .inl e => .inl e
    | .inr (l, k) => .inr (at_, l, k)
  else if c ≤ 191 then
    if 142 ≤ c then .inl 9
    else match writeL b at_ (lastOf log) (c - 128).toNat with
      | .inl e => .inl e
      | .inr (a, x) => match putL log cyc x 12 with
        | .inl e => .inl e
        | .inr (l, k) => .inr (a, l, k)
  else if c ≤ 192 then manyL b at_ log cyc
  else match b[at_]? with
    | none => .inl 12
    | some d => if d = 0 ∨ (log.length : Int) < d then .inl 9
      else match repsL d.toNat (c - 191).toNat 18 log cyc with
        | .inl e => .inl e
        | .inr (l, k) => .inr (at_ + 1, l, k)
def readL (b : List Int) : Nat → Nat → List (List Int) → List Int → Rd (List (List Int) × List Int × Nat)
  | 0, _, _, _ => .inl 12
  | f + 1, at_, log, cyc => match b[at_]? with
    | none => .inl 12
    | some c => if c = 0 then .inr (log, cyc, at_ + 1)
      else match cmdL b c (at_ + 1) log cyc with
        | .inl e => .inl e
        | .inr (a, l, k) => readL b f a l k
def readAll (b : List Int) : Rd (List (List Int) × List Int × Nat) := if 400000 < b.length then .inl 3 else readL b (b.length + 1) 0 [] []
end Go.Proofs.Ytmogoaceangblaa
