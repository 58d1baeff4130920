/- Plain Lean: how a line is fitted to a template. -/
import Derived.Test.YtojppincaalibaaGreatDoorArgN
import Derived.Test.YtojppincaalibaaGreatDoorArgS
import Derived.Lib.Case
import Derived.Lib.TrimByte
set_option linter.unusedVariables false
set_option linter.unusedSimpArgs false
namespace Go.Proofs.YtojppincaalibaaGreatDoor

/-- An argument. -/
structure Ag where
  name : Bs
  vals : List Bs
  set : Bool
instance : DecidableEq Ag := fun a b => decidable_of_iff (a.name = b.name ∧ a.vals = b.vals ∧ a.set = b.set) (by cases a; cases b; simp)
def low (l : Bs) : Bs := Lib.toLowerA l
def idxOf (p : It → Bool) : List It → Int
  | [] => -1
  | x :: xs => if p x then 0 else if idxOf p xs < 0 then -1 else idxOf p xs + 1
def findR (xs : List It) (n : Bs) : Int := if n.any (fun c => decide (128 ≤ c.toNat)) then -1 else idxOf (fun x => x.names.contains (low n)) xs
def It.plain (x : It) : Bool := !x.m.testBit 2 && !x.m.testBit 1
def freeGo : List It → List Ag → Nat → Int → Int
  | x :: xs, a :: ag, i, s => if x.plain then (if x.m.testBit 4 then freeGo xs ag (i + 1) i else if a.set then freeGo xs ag (i + 1) s else i) else freeGo xs ag (i + 1) s
  | _, _, _, s => s
def freeR (xs : List It) (ag : List Ag) : Int := freeGo xs ag 0 (-1)
def giveR (x : It) (a : Ag) (v : Bs) : Option Ag :=
  if a.set && !x.m.testBit 4 then none else if x.m.testBit 3 && decide ((numR v).2 ≠ 0) then none else some ⟨a.name, a.vals ++ [v], true⟩
def trimR (l : Bs) : Bs := Lib.trimRightB l 32
/-- What is left of the line, the arguments, which were named. -/
structure FSt where
  r : Bs
  ag : List Ag
  nm : List Bool
def giveS (xs : List It) (i : Nat) (st : FSt) (v : Bs) : Option FSt :=
  match xs[i]?, st.ag[i]? with
  | some x, some a => (giveR x a v).map fun a' => { st with ag := st.ag.set i a' }
  | _, _ => none
def restS (xs : List It) (i : Nat) (st : FSt) (r : Bs) : Option FSt :=
  if (trimR r).isEmpty then none else giveS xs i { st with r := [] } (trimR r)
def afterSign (r : Bs) : Bs := match skipB r with | [] => [] | c :: t => if c = 61 then skipB t else c :: t
def nameS (xs : List It) (i : Nat) (st : FSt) : Option FSt :=
  match xs[i]?, st.ag[i]?, st.nm[i]? with
  | some x, some a, some b =>
    if b || (x.m.testBit 2 && a.set) then none
    else if x.m.testBit 2 then some ⟨st.r, st.ag.set i { a with set := true }, st.nm.set i true⟩
    else if x.m.testBit 5 then restS xs i { st with nm := st.nm.set i true } (afterSign st.r)
    else match nx (skipB (afterSign st.r)) with
      | none => none
      | some y => match y.rest with
        | none => none
        | some r' => if y.w = [61] ∧ y.q = false then none else giveS xs i ⟨r', st.ag, st.nm.set i true⟩ y.w
  | _, _, _ => none
/-- The next word: st.r begins with it. -/
def stepS (xs : List It) (st : FSt) : Option FSt :=
  match nx st.r with
  | none => none
  | some y =>
    let k := if y.q then -1 else findR xs y.w
    if 0 ≤ k then (match y.rest with | none => none | some r' => nameS xs k.toNat { st with r := r' })
    else
      let i := freeR xs st.ag
      if decide (0 ≤ i) && (match xs[i.toNat]? with | some x => x.m.testBit 5 | none => false) then restS xs i.toNat st st.r
      else if i < 0 then none else match y.rest with
        | none => none
        | some r' => if y.w = [61] ∧ y.q = false then none else giveS xs i.toNat { st with r := r' } y.w
def fitGo (xs : List It) : Nat → FSt → Option (List Ag)
  | 0, st => none
  | n + 1, st => match skipB st.r with
    | [] => some st.ag
    | c :: t => match stepS xs { st with r := c :: t } with
      | none => none
      | some st' => fitGo xs n st'
def badByte (c : UInt8) : Bool := decide (c.toNat < 32) || decide (126 < c.toNat)
def readableR (l : Bs) : Int := if 1000 < l.length then 2 else if l.any badByte then 250 else 0
def startAs (xs : List It) : List Ag := xs.map fun x => ⟨x.names.headD [], [], false⟩
def lacking : List It → List Ag → Bool
  | x :: xs, a :: ag => (x.m.testBit 0 && !a.set) || lacking xs ag
  | _, _ => false
def fitR (t l : Bs) : List Ag × Int :=
  if 1000 < l.length then ([], 2) else
  let p := templateR t
  if p.2 ≠ 0 then ([], p.2) else
  if l.any badByte then ([], 250) else
  match fitGo p.1 (l.length + 1) ⟨l, startAs p.1, p.1.map fun _ => false⟩ with
  | none => ([], 250)
  | some ag => if lacking p.1 ag then ([], 250) else (ag, 0)
def ofS (s : String) : Bs := s.toUTF8.toList
theorem fit_awake : fitR [102, 114, 111, 109, 47, 97, 44, 116, 111, 47, 107, 44, 113, 117, 105, 101, 116, 47, 115] [120, 32, 116, 111, 32, 121] = ([⟨[102, 114, 111, 109], [[120]], true⟩, ⟨[116, 111], [[121]], true⟩, ⟨[113, 117, 105, 101, 116], [], false⟩], 0) := by decide +kernel
end Go.Proofs.YtojppincaalibaaGreatDoor
