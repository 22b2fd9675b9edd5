/-
  PLAIN: a solver (package sat) as data.
  THE SOLVER'S MIRROR (package sat): what each function does, on plain data; none where the program would fail or where a size is out of hand.
-/
import Derived.Test.YtaedbnbeelkkcaaDoorUa
import Ieee.Arith
import Derived.Lib.SlicesCompact
namespace Go.Proofs.YtaedbnbeelkkcaaDoor.slv
structure SS where
  xs : List (List Int)
  wt : Nat → List Nat
  vs : List Int
  lv : List Int
  rs : List Int
  tr : List Int
  lm : List Nat
  hd : Nat
  sc : List Nat
  gr : Nat
  ph : List Bool
  hp : List Nat
  pl : List Int
  pf : List (List Int)
  dead : Bool
def ix (n : Int) : Nat := if n < 0 then 2 * n.natAbs + 1 else 2 * n.natAbs
def ofM (vs : List Int) (n : Int) : Option Int :=
  match vs[n.natAbs]? with
  | some x => if x = -1 ∨ x = 0 ∨ x = 1 then some (if n < 0 then -x else x) else none
  | none => none
def setS (s : SS) (n by_ : Int) : SS := { s with vs := s.vs.set n.natAbs (sg n), lv := s.lv.set n.natAbs (s.lm.length : Nat), rs := s.rs.set n.natAbs by_, ph := s.ph.set n.natAbs (decide (0 < n)), tr := s.tr ++ [n] }
end Go.Proofs.YtaedbnbeelkkcaaDoor.slv
namespace Go.Proofs.YtaedbnbeelkkcaaDoor.slv
/-! ### floats -/
def fadd (a b : Nat) : Option Nat := Ieee.double.add a b
def fmul (a b : Nat) : Option Nat := Ieee.double.mul a b
def flt (a b : Nat) : Bool := Ieee.double.order a b == some .lt
def fgt (a b : Nat) : Bool := Ieee.double.order a b == some .gt
def fle (a b : Nat) : Bool := Ieee.double.order a b == some .lt || Ieee.double.order a b == some .eq
def fBig : Nat := 6103021453049119613
def fTiny : Nat := 3110860544497550640
def fGrow : Nat := 4607407598781385933
/-! ### values -/
def setM (V : Nat) (s : SS) (n by_ : Int) : Option SS :=
  if 1 ≤ n.natAbs ∧ n.natAbs ≤ V ∧ s.tr.length ≤ V ∧ s.lm.length ≤ V then some (setS s n by_) else none
/-! ### the heap -/
def stopH (s : SS) (i v : Nat) : SS := { s with hp := s.hp.set i v, pl := s.pl.set v (i : Int) }
def upL (v : Nat) : Nat → Nat → SS → Option SS
  | 0, _, _ => none
  | f + 1, i, s =>
    if i = 0 then some (stopH s i v)
    else
      match s.hp[(i - 1) / 2]? with
      | none => none
      | some u =>
        match s.sc[u]?, s.sc[v]? with
        | some a, some b => if flt a b then upL v f ((i - 1) / 2) (stopH s i u) else some (stopH s i v)
        | _, _ => none
def upM (V : Nat) (s : SS) (i : Nat) : Option SS :=
  match s.hp[i]? with
  | none => none
  | some v => if v ≤ V then upL v (i + 1) i s else none
/-- the greater child -/
def kidM (s : SS) (i : Nat) : Option Nat :=
  if 2 * i + 2 < s.hp.length then
    match s.hp[2 * i + 2]?, s.hp[2 * i + 1]? with
    | some u1, some u0 =>
      match s.sc[u1]?, s.sc[u0]? with
      | some a1, some a0 => some (if fgt a1 a0 then 2 * i + 2 else 2 * i + 1)
      | _, _ => none
    | _, _ => none
  else some (2 * i + 1)
def downL (v : Nat) : Nat → Nat → SS → Option SS
  | 0, _, _ => none
  | f + 1, i, s =>
    if 2 * i + 1 < s.hp.length then
      match kidM s i with
      | none => none
      | some k =>
        match s.hp[k]? with
        | none => none
        | some u =>
          match s.sc[u]?, s.sc[v]? with
          | some a, some b => if fle a b then some (stopH s i v) else downL v f k (stopH s i u)
          | _, _ => none
    else some (stopH s i v)
def downM (V : Nat) (s : SS) : Option SS :=
  match s.hp[0]? with
  | none => none
  | some v => if v ≤ V then downL v (s.hp.length + 1) 0 s else none
def popM (V : Nat) (s : SS) : Option (Nat × SS) :=
  match s.hp[0]?, s.hp[s.hp.length - 1]? with
  | some v, some l =>
    if v ≤ V ∧ l ≤ V then
      let s1 : SS := { s with hp := s.hp.take (s.hp.length - 1), pl := s.pl.set v (-1) }
      if s.hp.length - 1 = 0 then some (v, s1)
      else
        match downM V (stopH s1 0 l) with
        | some s2 => some (v, s2)
        | none => none
    else none
  | _, _ => none
def mulAll (c : Nat) : List Nat → Option (List Nat)
  | [] => some []
  | a :: r =>
    match fmul a c, mulAll c r with
    | some x, some y => some (x :: y)
    | _, _ => none
/-- scores and their step, behind a bump -/
def bumpF (sc : List Nat) (gr v : Nat) : Option (List Nat × Nat) :=
  match sc[v]? with
  | none => none
  | some a =>
    match fadd a gr with
    | none => none
    | some b =>
      if fgt b fBig then
        match mulAll fTiny (sc.set v b), fmul gr fTiny with
        | some l, some g => some (l, g)
        | _, _ => none
      else some (sc.set v b, gr)
def bumpM (V : Nat) (s : SS) (v : Nat) : Option SS :=
  match bumpF s.sc s.gr v with
  | none => none
  | some (l, g) =>
    let s1 : SS := { s with sc := l, gr := g }
    match s1.pl[v]? with
    | none => none
    | some p => if 0 ≤ p then upM V s1 p.toNat else some s1
/-! ### clauses -/
def upd (wt : Nat → List Nat) (i : Nat) (l : List Nat) : Nat → List Nat := fun j => if j = i then l else wt j
def attachM (V : Nat) (s : SS) (c : List Int) : Option SS :=
  match c with
  | a :: b :: _ =>
    if a.natAbs ≤ V ∧ b.natAbs ≤ V ∧ s.xs.length < 4000000 ∧ (s.wt (ix a)).length < 4000000 ∧ (upd s.wt (ix a) (s.wt (ix a) ++ [s.xs.length]) (ix b)).length < 4000000 then
      let w1 := upd s.wt (ix a) (s.wt (ix a) ++ [s.xs.length])
      some { s with xs := s.xs ++ [c], wt := upd w1 (ix b) (w1 (ix b) ++ [s.xs.length]) }
    else none
  | _ => none
/-- a clause, in order and each number once -/
def neat (c : List Int) : List Int := Lib.compact (c.mergeSort fun x y => decide (x ≤ y))
def addM (V : Nat) (s : SS) (c : List Int) : Option SS :=
  if (neat c).any (fun n => decide (0 < n) && (neat c).contains (-n)) then some s
  else
    match neat c with
    | [] => some { s with dead := true }
    | [a] =>
      match ofM s.vs a with
      | none => none
      | some x => if x = -1 then some { s with dead := true } else if x = 0 then setM V s a (-1) else some s
    | a :: b :: r => attachM V s (a :: b :: r)
/-! ### spreading -/
/-- the first number, from a place on, that is not false -/
def seekM (vs : List Int) : List Int → Option Nat
  | [] => some 0
  | a :: r =>
    match ofM vs a with
    | none => none
    | some x => if x = -1 then (match seekM vs r with | some j => some (j + 1) | none => none) else some 0
def swap2 (n : Int) : List Int → List Int
  | a :: b :: t => if a = n then b :: a :: t else a :: b :: t
  | c => c
inductive Spr where
  | go (kept : List Nat) (s : SS)
  | bad (k : Nat) (kept : List Nat) (s : SS)
/-- one clause that watches n -/
def spr1 (V : Nat) (n : Int) (k : Nat) (r kept : List Nat) (s : SS) : Option Spr :=
  match s.xs[k]? with
  | none => none
  | some c0 =>
    match swap2 n c0 with
    | a :: b :: t =>
      let s1 : SS := { s with xs := s.xs.set k (a :: b :: t) }
      match ofM s.vs a with
      | none => none
      | some x =>
        if x = 1 then some (.go (kept ++ [k]) s1)
        else
          match seekM s.vs t with
          | none => none
          | some j =>
            match t[j]? with
            | some y =>
              if y.natAbs ≤ V ∧ ix y ≠ ix n ∧ (s.wt (ix y)).length < 4000000 then
                some (.go kept { s1 with xs := s.xs.set k (a :: y :: t.set j b), wt := upd s.wt (ix y) (s.wt (ix y) ++ [k]) })
              else none
            | none =>
              if x = -1 then some (.bad k (kept ++ [k] ++ r) s1)
              else
                match setM V s1 a (k : Int) with
                | none => none
                | some s2 => some (.go (kept ++ [k]) s2)
    | _ => none
def sprI (V : Nat) (n : Int) : List Nat → List Nat → SS → Option Spr
  | [], kept, s => some (.go kept s)
  | k :: r, kept, s =>
    match spr1 V n k r kept s with
    | none => none
    | some (.bad k' l s') => some (.bad k' l s')
    | some (.go l s') => sprI V n r l s'
def sprL (V : Nat) : Nat → SS → Option (Option Nat × SS)
  | 0, _ => none
  | f + 1, s =>
    match s.tr[s.hd]? with
    | none => if s.tr.length ≤ s.hd then some (none, s) else none
    | some t =>
      if t.natAbs ≤ V then
        let s1 : SS := { s with hd := s.hd + 1 }
        match sprI V (-t) (s.wt (ix (-t))) [] s1 with
        | none => none
        | some (.bad k l s2) => some (some k, { s2 with wt := upd s2.wt (ix (-t)) l })
        | some (.go l s2) => sprL V f { s2 with wt := upd s2.wt (ix (-t)) l }
      else none
def spreadM (V : Nat) (s : SS) : Option (Option Nat × SS) := sprL V (V + 2) s
/-! ### learning -/
structure LS where
  s : SS
  seen : List Bool
  op : Nat
  out : List Int
def lcl (V : Nat) (n : Int) : List Int → LS → Option LS
  | [], l => some l
  | x :: r, l =>
    match l.seen[x.natAbs]?, l.s.lv[x.natAbs]? with
    | some b, some v =>
      if x = n ∨ b = true ∨ v = 0 then lcl V n r l
      else
        match bumpM V l.s x.natAbs with
        | none => none
        | some s' =>
          if l.op < 1000000 ∧ l.out.length < 1000000 then
            if v = (l.s.lm.length : Int) then lcl V n r { s := s', seen := l.seen.set x.natAbs true, op := l.op + 1, out := l.out }
            else lcl V n r { s := s', seen := l.seen.set x.natAbs true, op := l.op, out := l.out ++ [x] }
          else none
    | _, _ => none
/-- from a place of the trail downwards: the first that was seen -/
def lseek (tr : List Int) (seen : List Bool) : Nat → Option Nat
  | 0 =>
    match tr[0]? with
    | some t => (match seen[t.natAbs]? with | some true => some 0 | _ => none)
    | none => none
  | a + 1 =>
    match tr[a + 1]? with
    | some t => (match seen[t.natAbs]? with | some true => some (a + 1) | some false => lseek tr seen a | none => none)
    | none => none
def lrnL (V : Nat) : Nat → (k : Int) → (n : Int) → (at_ : Nat) → LS → Option (Int × LS)
  | 0, _, _, _, _ => none
  | f + 1, k, n, at_, l =>
    if k < 0 then none
    else
      match l.s.xs[k.toNat]? with
      | none => none
      | some c =>
        match lcl V n c l with
        | none => none
        | some l1 =>
          -- at_ is one more than the place
          match at_ with
          | 0 => none
          | at1 + 1 =>
            match lseek l1.s.tr l1.seen at1 with
            | none => none
            | some a =>
              match l1.s.tr[a]? with
              | none => none
              | some t =>
                match l1.s.rs[t.natAbs]? with
                | none => none
                | some k' =>
                  match l1.op with
                  | 0 => none
                  | 1 => some (t, { l1 with op := 0 })
                  | o + 2 => lrnL V f k' t a { l1 with op := o + 1 }
/-- the deepest level among the others comes second -/
def lswap (lv : List Int) : Nat → Nat → List Int → Int → Option (List Int × Int)
  | 0, _, _, _ => none
  | f + 1, i, out, back =>
    if i < out.length then
      match out[i]?, out[1]? with
      | some x, some y =>
        match lv[x.natAbs]? with
        | none => none
        | some l => if back < l then lswap lv f (i + 1) ((out.set 1 x).set i y) l else lswap lv f (i + 1) out back
      | _, _ => none
    else some (out, back)
def learnM (V : Nat) (s : SS) (k : Nat) : Option (List Int × Int × SS) :=
  match lrnL V (s.tr.length + 1) (k : Int) 0 s.tr.length { s := s, seen := List.replicate (V + 1) false, op := 0, out := [0] } with
  | none => none
  | some (t, l) =>
    match lswap l.s.lv (l.out.length + 1) 1 (l.out.set 0 (-t)) 0 with
    | none => none
    | some (out, back) => some (out, back, l.s)
/-! ### going back, deciding -/
def backL (V : Nat) : List Int → SS → Option SS
  | [], s => some s
  | n :: r, s =>
    match s.vs[n.natAbs]?, s.pl[n.natAbs]? with
    | some _, some p =>
      if p < 0 then
        if s.hp.length < 1000000 then
          match upM V { s with vs := s.vs.set n.natAbs 0, hp := s.hp ++ [n.natAbs], pl := s.pl.set n.natAbs (s.hp.length : Int) } s.hp.length with
          | none => none
          | some s1 => backL V r s1
        else none
      else backL V r { s with vs := s.vs.set n.natAbs 0 }
    | _, _ => none
def backM (V : Nat) (s : SS) (level : Nat) : Option SS :=
  if s.lm.length ≤ level then some s
  else
    match s.lm[level]? with
    | none => none
    | some m =>
      if m < s.tr.length then
        match backL V (s.tr.drop m) s with
        | none => none
        | some s1 => some { s1 with tr := s.tr.take m, lm := s.lm.take level, hd := m }
      else none
def decL (V : Nat) : Nat → SS → Option (Bool × SS)
  | 0, _ => none
  | f + 1, s =>
    if s.hp.length = 0 then some (false, s)
    else
      match popM V s with
      | none => none
      | some (v, s1) =>
        match s1.vs[v]? with
        | none => none
        | some x =>
          if x ≠ 0 then decL V f s1
          else
            match s1.ph[v]? with
            | none => none
            | some b =>
              match (if s1.lm.length < V then setM V { s1 with lm := s1.lm ++ [s1.tr.length] } (if b then (v : Int) else -(v : Int)) (-1) else none) with
              | none => none
              | some s2 => some (true, s2)
def decideM (V : Nat) (s : SS) : Option (Bool × SS) := decL V (s.hp.length + 1) s
/-! ### luby's row -/
def lubyK (i : Nat) : Nat → Nat → Nat
  | 0, k => k
  | f + 1, k => if 2 ^ k - 1 < i + 1 then lubyK i f (k + 1) else k
def luby : Nat → Nat → Nat
  | 0, _ => 1
  | f + 1, i => if 2 ^ lubyK i 64 1 - 1 = i + 1 then 2 ^ (lubyK i 64 1 - 1) else luby f (i - (2 ^ (lubyK i 64 1 - 1) - 1))
/-! ### the search -/
inductive Ans where
  | yes (m : List Bool)
  | no (pf : List (List Int))
  | tired
def modelOf (V : Nat) (vs : List Int) : List Bool := (List.range V).map fun v => vs.getD (v + 1) 0 == 1
/-- what follows a conflict -/
def conflictM (V : Nat) (s : SS) (k : Nat) : Option SS :=
  match learnM V s k with
  | none => none
  | some (c, back, s1) =>
    if back < 0 ∨ ¬ s1.pf.length < 4000000 then none
    else
      match backM V { s1 with pf := s1.pf ++ [c] } back.toNat with
      | none => none
      | some s2 =>
        match fmul s2.gr fGrow with
        | none => none
        | some g =>
          let s3 : SS := { s2 with gr := g }
          match c with
          | [] => none
          | [a] => setM V s3 a (-1)
          | a :: b :: r =>
            match attachM V s3 (a :: b :: r) with
            | none => none
            | some s4 => setM V s4 a (s3.xs.length : Int)
def searchL (V effort : Nat) : Nat → (rd cf : Nat) → (left : Int) → SS → Option (Ans × SS)
  | 0, _, _, _, _ => none
  | f + 1, rd, cf, left, s =>
    match spreadM V s with
    | none => none
    | some (none, s1) =>
      if left ≤ 0 then
        if rd < 1000000000 then
          match backM V s1 0 with
          | none => none
          | some s2 => searchL V effort f (rd + 1) cf (100 * (luby 64 (rd + 1) : Int)) s2
        else none
      else
        match decideM V s1 with
        | none => none
        | some (false, s2) => some (.yes (modelOf V s2.vs), s2)
        | some (true, s2) => searchL V effort f rd cf left s2
    | some (some k, s1) =>
      if s1.lm.length = 0 then some (.no (s1.pf ++ [[]]), s1)
      else if cf = effort then some (.tired, s1)
      else
        match conflictM V s1 k with
        | none => none
        | some s2 => searchL V effort f rd (cf + 1) (left - 1) s2
def searchM (V effort fuel : Nat) (s : SS) : Option (Ans × SS) :=
  if s.dead then some (.no (s.pf ++ [[]]), s)
  else
    match spreadM V s with
    | none => none
    | some (some _, s1) => some (.no (s1.pf ++ [[]]), s1)
    | some (none, s1) => searchL V effort fuel 0 0 100 s1
end Go.Proofs.YtaedbnbeelkkcaaDoor.slv
