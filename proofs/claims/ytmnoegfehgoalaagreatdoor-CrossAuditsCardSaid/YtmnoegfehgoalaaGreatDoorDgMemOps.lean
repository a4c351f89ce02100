/- Operations on memory. -/
import Derived.Test.YtmnoegfehgoalaaGreatDoorDgMem
namespace Go.Dg
set_option linter.unusedVariables false
set_option linter.unusedSimpArgs false
/-- Cells out of what 'append' or 'copy' takes: so many elements of n cells. -/
def srcCells (H : Heap) (n : Nat) (x : Value) : Option (Nat × List Value) :=
  match x with
  | .slice (some ⟨k, off, _⟩) len _ => (H.read k off (len * n)).map fun l => (len, l)
  | .slice none 0 _ => some (0, [])
  | .chan (some _) => some (0, [])
  | .string s => if n = 1 then some (s.size, byteCells s) else none
  | _ => none
def someSlice : Option TypeDesc → Option TypeId
  | some (.slice e) => some e
  | _ => none
def srcType : Option TypeDesc → Bool
  | some (.slice _) => true
  | some .string => true
  | _ => false
/-- The text of cells that are bytes. -/
def cellInts : List Value → Option (List Int)
  | [] => some []
  | .int .u8 n :: r => (cellInts r).map fun l => n :: l
  | _ => none
/-- Is it known of an object that no value in it holds an address? -/
def flagAt (H : Heap) (k : Nat) : Bool := match H.get k with | .cells _ _ md _ => Nat.ble 4 md | _ => false
/-- Is it known of what is appended? -/
def srcFlag (H : Heap) : Value → Bool
  | .slice (some ⟨k, _, _⟩) _ _ => flagAt H k
  | .string _ => true
  | _ => false
/-- append: the value and the heap; what was turned. -/
def evAppend (P : Program) (H : Heap) (t tx : TypeId) (s x : Value) : Option (Value × Heap × List Nat) :=
  match someSlice (P.underlying t) with
  | none => none
  | some e => if !srcType (P.underlying tx) then none else
    match P.info? e with
    | none => none
    | some i => match i.zero, srcCells H i.size x with
      | some z, some (n, news) =>
        if !(news.all (·.oneCell') && news.length == n * i.size && z.cells.size == i.size) then none else
        match s with
        | .slice none 0 0 =>
          if n = 0 then some (.slice none 0 0, H, [])
          else if decide (n ≤ 1099511627776) && decide (n * i.bytes ≤ 1099511627776) then
            some (.slice (some ⟨H.n, 0, some 0⟩) n n, H.push (.cells news e (if srcFlag H x then 5 else 1) i.size), [])
          else none
        | .slice (some ⟨k, off, sp⟩) len cap =>
          let need := len + n
          if need ≤ cap then
            (if n = 0 then some (.slice (some ⟨k, off, sp⟩) need cap, H, [])
             else (H.write k (off + len * i.size) news (srcFlag H x)).map fun H' => (.slice (some ⟨k, off, sp⟩) need cap, H', [k]))
          else if !(decide (need ≤ 1099511627776) && decide (need * i.bytes ≤ 1099511627776)) then none
          else match H.read k off (len * i.size) with
            | none => none
            | some olds => if !(olds.all (·.oneCell')) then none else match sp with
              | none => some (.slice (some ⟨H.n, 0, some 0⟩) need need, H.push (.cells (olds ++ news) e (if (flagAt H k || flatL olds) && (srcFlag H x || flatL news) then 5 else 1) i.size), [])
              | some _ => match H.get k with
                | .cells cs e' md esz => if len = cap && md % 4 == 1 && esz == i.size && e' == e && off + len * i.size == cs.length && Nat.beq off 0 then
                    some (.slice (some ⟨H.n, 0, some 0⟩) need need, (H.set k .dead).push (.cells (olds ++ news) e (keepMd md (srcFlag H x || flatL news)) i.size), [k])
                  else none
                | _ => none
        | _ => none
      | _, _ => none
def evMem (P : Program) (G : Nat) (ts : List Value) (H : Heap) (o : Oper) : Option (Value × Heap × List Nat) :=
  match o.op with
  | .load t x => match rd G ts x with
    | some (.pointer (some ⟨k, off, none⟩)) => match eval0 P (isAgg t) with
      | some true => match eval0 P (sizeOf t) with
        | some n => (H.read k off n).map fun l => (.agg l.toArray, H, [])
        | none => none
      | some false => match H.read k off 1 with
        | some [v] => some (v, H, [])
        | _ => none
      | none => none
    | _ => none
  | .store t x y => match rd G ts x, rd G ts y, eval0 P (sizeOf t) with
    | some (.pointer (some ⟨k, off, none⟩)), some v, some n =>
      if v.cells.size = n then (H.write k off v.cells.toList).map fun H' => (undef, H', [k]) else none
    | _, _, _ => none
  | .alloc t => match eval0 P (zeroValue t) with
    | some z => if flat z then some (.pointer (some ⟨H.n, 0, none⟩), H.push (.cells z.cells.toList t 0 1), []) else none
    | none => none
  | .box t x => match rd G ts x with
    | some v => some (.pointer (some ⟨H.n, 0, none⟩), H.push (.cells v.cells.toList t 0 1), [])
    | none => none
  | .buildSlice t len ps => match someSlice (P.underlying t), rdParts G ts ps.toList with
    | some e, some l => match eval0 P (sizeOf e), eval0 P (zeroValue e) with
      | some n, some z =>
        if flat z && decide (len * n ≤ 16777216) then
          (Instr.fill (fun i => some (i * n, n)) ((Array.range (len * n)).map (z.cells[· % z.cells.size]!)) l).map fun cs =>
            (.slice (some ⟨H.n, 0, none⟩) len len, H.push (.cells cs.toList e 0 1), [])
        else none
      | _, _ => none
    | _, _ => none
  | .makeSlice t x y => match someSlice (P.underlying t), rd G ts x, rd G ts y with
    | some e, some (.int _ l), some (.int _ c) => match P.info? e with
      | some i => match i.zero with
        | some z =>
          if flat z && decide (0 ≤ l) && decide (l ≤ c) && decide (c ≤ 1099511627776) && decide (c.toNat * i.bytes ≤ 1099511627776) then
            some (.slice (some ⟨H.n, 0, none⟩) l.toNat c.toNat, H.push (.cells ((Array.range (c.toNat * i.size)).map (z.cells[· % z.cells.size]!)).toList e 4 1), [])
          else none
        | none => none
      | none => none
    | _, _, _ => none
  | .convert src dst x => match P.underlying src, P.underlying dst, rd G ts x with
    | some (.slice e), some .string, some (.slice (some ⟨k, off, _⟩) len _) => match P.underlying e with
      | some (.int .u8) => match H.read k off len with
        | some l => (cellInts l).map fun ns => (.string ⟨(ns.map fun n => UInt8.ofNat n.toNat).toArray⟩, H, [])
        | none => none
      | _ => none
    | some (.slice e), some .string, some (.chan (some _)) => match P.underlying e with
      | some (.int .u8) => some (.string ⟨#[]⟩, H, [])
      | _ => none
    | some .string, some (.slice e), some (.string s) => match P.underlying e with
      | some (.int .u8) => some (.slice (some ⟨H.n, 0, some 0⟩) s.size s.size, H.push (.cells (byteCells s) e 5 1), [])
      | _ => none
    | _, _, _ => none
  | .call { callee := .builtin .append, args, argTypes } => match args.toList, argTypes.toList with
    | [x, y], [t, tx] => match rd G ts x, rd G ts y with
      | some s, some v => evAppend P H t tx s v
      | _, _ => none
    | _, _ => none
  | .call { callee := .builtin .copy, args, argTypes } => match args.toList, argTypes.toList with
    | [x, y], t :: _ => match someSlice (P.underlying t), rd G ts x, rd G ts y with
      | some e, some (.slice (some ⟨k, off, _⟩) dl _), some v => match eval0 P (sizeOf e) with
        | some n => match v with
          | .slice (some ⟨k2, off2, _⟩) len _ => match H.read k2 off2 (Nat.min len dl * n) with
            | some l => (H.write k off l (flagAt H k2)).map fun H' => (goInt (Nat.min len dl), H', [k])
            | none => none
          | .string s => if n = 1 then (H.write k off ((byteCells s).take dl) true).map fun H' => (goInt (Nat.min s.size dl), H', [k]) else none
          | _ => none
        | none => none
      | _, _, _ => none
    | _, _ => none
  | .range t x => match P.underlying t, rd G ts x with
    | some .string, some (.string s) => some (.pointer (some ⟨H.n, 0, none⟩), H.push (.iter s 0), [])
    | _, _ => none
  | .next x true => match rd G ts x with
    | some (.pointer (some ⟨k, 0, none⟩)) => match H.get k with
      | .iter s pos =>
        if pos < s.size then
          some (.tuple #[.bool true, goInt pos, .int .i32 (Utf8.decode s pos).1], H.set k (.iter s (pos + (Utf8.decode s pos).2)), [k])
        else some (.tuple #[.bool false], H, [])
      | _ => none
    | _ => none
  | _ => none
end Go.Dg
