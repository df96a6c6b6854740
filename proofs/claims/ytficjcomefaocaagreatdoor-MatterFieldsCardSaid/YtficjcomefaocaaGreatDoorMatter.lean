/- A MATTER in plain Lean, and how it lies in memory; formedB. -/
import Derived.Test.YtficjcomefaocaaGreatDoorName
import Derived.Test.YtficjcomefaocaaGreatDoorBaseB
namespace Go.Proofs.YtficjcomefaocaaGreatDoor
open Go.RowKit Go.Maps
open Lexer

/-- a matter; the lists' slices as they lie there -/
structure Mat where
  id : ByteArray
  opened : Int
  cv : Value
  case_ : List Int
  proc : ByteArray
  stage : Int
  mv : Value
  moved : List Int
  rv : Value
  rights : List (ByteArray × Int)
  lv : Value
  limits : List Lim
/-- its cells -/
abbrev Mat.cells (m : Mat) : Array Value := #[.string m.id, .int .i64 m.opened, m.cv, .string m.proc, .int .i64 m.stage, m.mv, m.rv, m.lv]
/-- how it lies below block B -/
structure MR (w : World) (B : Nat) (m : Mat) : Prop where
  cs : RI w B m.cv m.case_
  mo : RI w B m.mv m.moved
  ri : RR w B m.rv m.rights
  li : RL w B m.lv m.limits
  si : m.id.size ≤ 140737488355328
  sp : m.proc.size ≤ 140737488355328
theorem MR.below {w w' : World} {B : Nat} {m : Mat} (h : MR w B m) (hb : Below B w w') : MR w' B m := ⟨h.cs.below hb, h.mo.below hb, h.ri.below hb, h.li.below hb, h.si, h.sp⟩
theorem MR.more {w : World} {B B' : Nat} {m : Mat} (h : MR w B m) (hB : B ≤ B') : MR w B' m := ⟨h.cs.more hB, h.mo.more hB, h.ri.more hB, h.li.more hB, h.si, h.sp⟩
theorem MR.go {w w' : World} {m : Mat} (h : MR w w.heap.size m) (hb : Below w.heap.size w w') : MR w' w'.heap.size m := (h.below hb).more hb.size

/-- are the days of the moves in order, not before the matter was opened, the last one a day -/
def daysB (opened : Int) (L : List Int) : Bool := sortB L && (L.isEmpty || (decide (opened ≤ L.getD 0 0) && dayB (L.getD (L.length - 1) 0)))
/-- is a matter formed -/
noncomputable def formedB (m : Mat) : Bool :=
  nameB m.id && (nameB m.proc && (dayB m.opened && (decide (0 ≤ m.stage) && (decide (m.stage < 60) && ((m.case_.all fun x => valB x) && (decide (m.case_.length ≤ 60) && (daysB m.opened m.moved && (decide (m.moved.length ≤ 60) &&
    (diffB (rightB m.opened) (fun x => x.1) m.rights && diffB (fun x => limB x.id x.N x.U x.f x.stops) (fun x => x.id) m.limits)))))))))
end Go.Proofs.YtficjcomefaocaaGreatDoor
