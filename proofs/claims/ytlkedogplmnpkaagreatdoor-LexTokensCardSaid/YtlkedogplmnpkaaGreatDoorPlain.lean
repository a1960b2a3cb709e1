/-
  The plain words of the lexer: what a token is, what blanks and remarks are, which tokens a list of bytes has, or which fault.
  It speaks of lists of bytes and numbers alone; no program stands in it.
-/
namespace Go.Proofs.YtlkedogplmnpkaaGreatDoor.Lx
def letter (c : UInt8) : Bool := (65 ≤ c && c ≤ 90) || (97 ≤ c && c ≤ 122) || c == 95
def digit (c : UInt8) : Bool := 48 ≤ c && c ≤ 57
def named (c : UInt8) : Bool := letter c || digit c
def line (c : UInt8) : Bool := c != 10
def span (p : UInt8 → Bool) : List UInt8 → Nat
  | [] => 0
  | c :: r => if p c then span p r + 1 else 0
def blank (c : UInt8) : Bool := c == 32 || c == 9 || c == 10 || c == 13
/-- How many bytes of blanks and remarks stand in front; true: we stand inside a remark. -/
def skip : Bool → List UInt8 → Nat
  | _, [] => 0
  | true, c :: r => if c == 10 then skip false r + 1 else skip true r + 1
  | false, c :: r => if blank c then skip false r + 1 else if c == 45 && r.head? == some 45 then skip true r + 1 else 0
def words : List (List UInt8) :=
  [[110, 111, 100, 101], [102, 108, 111, 119], [114, 101, 116, 117, 114, 110, 115], [118, 97, 114], [108, 101, 116], [116, 101, 108], [105, 110, 116], [98, 111, 111, 108], [114, 97, 116, 101], [100, 117, 101], [105, 102], [116, 104, 101, 110], [101, 108, 115, 101], [97, 110, 100], [111, 114], [110, 111, 116], [116, 114, 117, 101], [102, 97, 108, 115, 101], [102, 98, 121], [116, 97, 105, 108]]
def word (l : List UInt8) : Bool := words.contains l
def name (l : List UInt8) : Bool := !l.isEmpty && decide (l.length ≤ 32) && letter (l.headD 0) && span named l == l.length && !word l
def value (l : List UInt8) : Nat := l.foldl (fun v c => 10 * v + (c.toNat - 48)) 0
def second (r : List UInt8) (x : UInt8) : Nat := if r.head? == some x then 2 else 1
def sign : List UInt8 → Nat
  | [] => 0
  | c :: r =>
    if c == 126 then (if second r 62 == 2 then 2 else 0)
    else if c == 42 || c == 47 then second r 94
    else if c == 58 then second r 58
    else if c == 60 then (if second r 62 == 2 then 2 else second r 61)
    else if c == 62 then second r 61
    else if c == 40 || c == 41 || c == 59 || c == 44 || c == 61 || c == 43 || c == 45 || c == 37 then 1
    else 0
/-- The token at the front: its kind, how many bytes, its number; or the fault's number. -/
def tok (l : List UInt8) : Except Nat (Nat × Nat × Nat) :=
  if letter (l.headD 0) then
    (if span named l > 32 then .error 32 else .ok (if word (l.take (span named l)) then 3 else 1, span named l, 0))
  else if digit (l.headD 0) then
    (if (span digit l > 1 && l.headD 0 == 48) || value (l.take (span digit l)) > 9223372036854775807 then .error 31 else .ok (2, span digit l, value (l.take (span digit l))))
  else if sign l == 0 then .error 30 else .ok (4, sign l, 0)
structure T where
  kind : Nat
  text : List UInt8
  int : Nat
  pos : Nat
  deriving DecidableEq
/-- The tokens of what is left behind blanks, at a place, behind n others; the first number bounds the rounds. -/
def toks : Nat → List UInt8 → Nat → Nat → Except (Nat × Nat) (List T)
  | 0, _, _, _ => .ok []
  | f + 1, s, p, n =>
    if s = [] then .ok [⟨0, [], 0, p⟩]
    else match tok s with
      | .error e => .error (p, e)
      | .ok (k, len, v) =>
        if n + 1 ≥ 16384 then .error (p, 6)
        else match toks f ((s.drop len).drop (skip false (s.drop len))) (p + len + skip false (s.drop len)) (n + 1) with
          | .error e => .error e
          | .ok ts => .ok (⟨k, s.take len, v, p⟩ :: ts)
def tokens (s : List UInt8) : Except (Nat × Nat) (List T) :=
  if s.length > 65536 then .error (65536, 4) else toks (s.length + 1) (s.drop (skip false s)) (skip false s) 0
/-- The line and the column of a place. -/
def place (l : List UInt8) : Nat × Nat := l.foldl (fun x c => if c == 10 then (x.1 + 1, 1) else (x.1, x.2 + 1)) (1, 1)
end Go.Proofs.YtlkedogplmnpkaaGreatDoor.Lx
