




/-
  Package route, in plain Lean: snapshots, which of them are right, and where a request goes.
-/
import Derived.Test.YtjcpfldobiekbaaDoorMtG2
import Derived.Test.YtjcpfldobiekbaaDoorFl
namespace Go.Proofs.YtjcpfldobiekbaaDoor
open Go.Fl Go.Sl Go.RowKit

/-- a choice: the cluster, and the weight's bits -/
structure Ch where
  cluster : Txt
  weight : Nat
structure Rt where
  path : Txt
  how : Int
  service : Txt
  method : Txt
  fields : List Mr
  choices : List Ch
  ticks : Int
structure Hs where
  names : List Txt
  routes : List Rt
structure Sn where
  version : Int
  clusters : List Txt
  hosts : List Hs

def weightsR (l : List Ch) : List Nat := l.map (·.weight)

def mayR (r : Rt) (cl : List Txt) : Bool :=
  (decide (r.how = 0) || decide (r.how = 1) || decide (r.how = 2)) && !(!decide (r.method = []) && decide (r.service = [])) && decide (0 ≤ r.ticks) && decide (r.fields.length ≤ 16) && decide (r.choices.length ≤ 16)
    && (r.fields.all fun m => decide (0 ≤ m.how) && decide (m.how ≤ 3) && !decide (m.name = [])) && (r.choices.all fun c => cl.contains c.cluster) && weighR (weightsR r.choices)

/-- the list behind 'seen', if none of it is empty and none stands there twice -/
def newR (seen : List Txt) : List Txt → Option (List Txt)
  | [] => some seen
  | x :: l => if x = [] ∨ x ∈ seen then none else newR (seen ++ [x]) l

def hostsR (cl : List Txt) (seen : List Txt) : List Hs → Bool
  | [] => true
  | h :: l => decide (1 ≤ h.names.length) && decide (h.names.length ≤ 16) && decide (h.routes.length ≤ 32) &&
    match newR seen (h.names.map smallL) with
    | none => false
    | some seen' => h.routes.all (mayR · cl) && hostsR cl seen' l

def rightR (s : Sn) : Bool :=
  decide (1 ≤ s.version) && decide (s.clusters.length ≤ 32) && decide (s.hosts.length ≤ 32) && (newR [] s.clusters).isSome && hostsR s.clusters [] s.hosts

def firstF (l : List Fd) (name : Txt) : Txt := match l.find? fun f => decide (f.1 = name) with | some f => f.2.1 | none => []

/-- the nearest host so far: how near, and which -/
def nearN (auth : Txt) (i : Nat) (st : Int × Option Nat) (n : Txt) : Int × Option Nat := if st.1 < hostR n auth then (hostR n auth, some i) else st
def nearH (auth : Txt) : Nat → Int × Option Nat → List Hs → Int × Option Nat
  | _, st, [] => st
  | i, st, h :: l => nearH auth (i + 1) (h.names.foldl (nearN auth i) st) l

def fitsR (r : Rt) (path : Txt) (l : List Fd) : Bool :=
  pathR r.how r.path path && (r.fields.all fun m => fieldR m l) && (decide (r.service = []) || match callR path with
    | none => false
    | some (s, m) => grpcR l && decide (s = r.service) && (decide (r.method = []) || decide (r.method = m)))

def goesR (l : List Rt) (path : Txt) (f : List Fd) (draw : Nat) : Option (Txt × Int) :=
  match l.find? fun r => fitsR r path f with
  | none => none
  | some r => some (((r.choices[pickR (weightsR r.choices) draw]?).map (·.cluster)).getD [], r.ticks)

def findR (s : Sn) (l : List Fd) (draw : Nat) : Option (Txt × Int) :=
  if rightR s then
    match (nearH (firstF l [58, 97, 117, 116, 104, 111, 114, 105, 116, 121]) 0 (0, none) s.hosts).2 with
    | none => none
    | some i => match s.hosts[i]? with
      | none => none
      | some h => goesR h.routes (firstF l [58, 112, 97, 116, 104]) l draw
  else none
def findV : Option (Txt × Int) → Value
  | some (c, n) => .tuple #[str c, .int .i64 n, .bool true]
  | none => .tuple #[str [], .int .i64 0, .bool false]
end Go.Proofs.YtjcpfldobiekbaaDoor
