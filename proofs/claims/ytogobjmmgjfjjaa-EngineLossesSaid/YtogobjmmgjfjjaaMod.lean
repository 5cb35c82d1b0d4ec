/- What is proved: nothing of Go: the plain data of a plant, and how it lies in memory. -/
import Derived.Test.YtogobjmmgjfjjaaSet
namespace Go.Proofs.Ytogobjmmgjfjjaa
open Go.RowKit

structure TankD where
  name : ByteArray
  room : Int
  least : Int
  limit : Int
structure ValveD where
  name : ByteArray
  travel : Int
  opn : Bool
structure LineD where
  src : Int
  dst : Int
  flow : Int
  gas : Bool
  valves : List Int
structure LitD where
  valve : Int
  opn : Bool
structure PlantD where
  tanks : List TankD
  valves : List ValveD
  lines : List LineD
  never : List (List LitD)
def tank0 : TankD := ⟨ByteArray.empty, 0, 0, 0⟩
def valve0 : ValveD := ⟨ByteArray.empty, 0, false⟩
def line0 : LineD := ⟨0, 0, 0, false, []⟩
def lit0 : LitD := ⟨0, false⟩
def PlantD.tank (p : PlantD) (i : Nat) : TankD := p.tanks.getD i tank0
def PlantD.valve (p : PlantD) (i : Nat) : ValveD := p.valves.getD i valve0
def PlantD.line (p : PlantD) (i : Nat) : LineD := p.lines.getD i line0
def PlantD.nev (p : PlantD) (i : Nat) : List LitD := p.never.getD i []

def tankC (t : TankD) : Nat → Value
  | 0 => .string t.name
  | 1 => .int .i64 t.room
  | 2 => .int .i64 t.least
  | _ => .int .i64 t.limit
def valveC (t : ValveD) : Nat → Value
  | 0 => .string t.name
  | 1 => .int .i64 t.travel
  | _ => .bool t.opn
def litC (l : LitD) : Nat → Value
  | 0 => .int .i64 l.valve
  | _ => .bool l.opn
def lineC (A : Option Addr) (c : Nat) (l : LineD) : Nat → Value
  | 0 => .int .i64 l.src
  | 1 => .int .i64 l.dst
  | 2 => .int .i64 l.flow
  | 3 => .bool l.gas
  | _ => .slice A l.valves.length c

/-- Where the parts of a plant lie. -/
structure PV where
  tA : Option Addr
  tc : Nat
  vA : Option Addr
  vc : Nat
  lA : Option Addr
  lc : Nat
  nA : Option Addr
  nc : Nat
  iA : Nat → Option Addr
  ic : Nat → Nat
  jA : Nat → Option Addr
  jc : Nat → Nat

/-- The literals l lie at A. -/
def LitsAt (w : World) (B : Nat) (A : Option Addr) (l : List LitD) : Prop := Sl w B 2 A l.length fun i => litC (l.getD i lit0)
def IntsAt (w : World) (B : Nat) (A : Option Addr) (l : List Int) : Prop := Sl w B 1 A l.length fun i _ => .int .i64 (l.getD i 0)

structure PlantAt (w : World) (B : Nat) (x : PV) (p : PlantD) : Prop where
  tanks : Sl w B 4 x.tA p.tanks.length fun i => tankC (p.tank i)
  valves : Sl w B 3 x.vA p.valves.length fun i => valveC (p.valve i)
  lines : Sl w B 5 x.lA p.lines.length fun i => lineC (x.iA i) (x.ic i) (p.line i)
  lv : ∀ i, i < p.lines.length → IntsAt w B (x.iA i) (p.line i).valves
  never : Sl w B 1 x.nA p.never.length fun i _ => .slice (x.jA i) (p.nev i).length (x.jc i)
  nv : ∀ i, i < p.never.length → LitsAt w B (x.jA i) (p.nev i)
  room : p.tanks.length * 16 ≤ 140737488355328 ∧ p.valves.length * 16 ≤ 140737488355328

theorem PlantAt.below {w w' : World} {B : Nat} {x : PV} {p : PlantD} (h : PlantAt w B x p) (hb : Below B w w') : PlantAt w' B x p :=
  ⟨h.tanks.below hb, h.valves.below hb, h.lines.below hb, fun i hi => (h.lv i hi).below hb, h.never.below hb, fun i hi => (h.nv i hi).below hb, h.room⟩
theorem PlantAt.mono {w : World} {B B' : Nat} {x : PV} {p : PlantD} (h : PlantAt w B x p) (hb : B ≤ B') : PlantAt w B' x p :=
  ⟨h.tanks.mono hb, h.valves.mono hb, h.lines.mono hb, fun i hi => (h.lv i hi).mono hb, h.never.mono hb, fun i hi => (h.nv i hi).mono hb, h.room⟩

/-! What the program computes of a plant. -/
def apartB (n : Nat) (s : Nat → ByteArray) (most : Int) : Bool :=
  (allN n fun i => inB (s i).size 1 32 && allN i fun j => !decide (s j = s i)) && inB n 1 most
def tankOk (t : TankD) : Bool := inB t.room 1 1073741824 && inB t.least 1 1073741824 && inB t.limit 0 1073741824
def valveOk (v : ValveD) : Bool := inB v.travel 1 8
def lineOk (nt nv : Nat) (l : LineD) : Bool :=
  inB l.src (-1) (nt - 1) && inB l.dst (-1) (nt - 1) && !decide (l.src = l.dst) && inB l.flow 1 1073741824 && inB l.valves.length 1 4 && allN l.valves.length fun i => inB (l.valves.getD i 0) 0 (nv - 1)
def litsOk (nv : Nat) (l : List LitD) (most : Int) : Bool := inB l.length 1 most && allN l.length fun i => inB (l.getD i lit0).valve 0 (nv - 1)
def tankedB (p : PlantD) : Bool := apartB p.tanks.length (fun i => (p.tank i).name) 16 && allN p.tanks.length fun i => tankOk (p.tank i)
def valvedB (p : PlantD) : Bool := apartB p.valves.length (fun i => (p.valve i).name) 12 && allN p.valves.length fun i => valveOk (p.valve i)
def linedB (p : PlantD) : Bool := decide ((p.lines.length : Int) ≤ 32) && allN p.lines.length fun i => lineOk p.tanks.length p.valves.length (p.line i)

/-- Where a valve is, and whether it is wanted open. -/
structure SpotD where
  place : Int
  opn : Bool
def SpotD.zero : SpotD := ⟨0, false⟩
/-- All twelve. -/
abbrev Spots := Nat → SpotD
def firstB (p : PlantD) : Spots := fun i => if i < p.valves.length ∧ (p.valve i).opn then ⟨(p.valve i).travel, true⟩ else SpotD.zero
def holdsB (p : PlantD) (s : Spots) (l : LitD) : Bool :=
  if l.opn then decide (0 < (s l.valve.toNat).place) else decide ((s l.valve.toNat).place < (p.valve l.valve.toNat).travel)
def mayB (p : PlantD) (s : Spots) (l : LitD) : Bool := ((s l.valve.toNat).opn == l.opn) || holdsB p s l
def safeB (p : PlantD) (s : Spots) : Bool := allN p.never.length fun i => !(allN (p.nev i).length fun k => mayB p s ((p.nev i).getD k lit0))
def plantB (p : PlantD) : Bool :=
  tankedB p && valvedB p && linedB p && decide ((p.never.length : Int) ≤ 32) && (allN p.never.length fun i => litsOk p.valves.length (p.nev i) 4) && safeB p (firstB p)
end Go.Proofs.Ytogobjmmgjfjjaa
