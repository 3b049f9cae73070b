/- Part of a proof: a small logic of programs over plain values, shown sound for the given machine. -/
import Derived.CallsIn
import Derived.Below
import Derived.Laws.Sem
import Derived.Laws.Rows
import Derived.Laws.StructEq
import Derived.ChangeKeysEq
import Derived.Laws.Pointers
import Derived.WalkSpells
import Derived.Lib.SliceRun
/- The abstract values, the abstract heap and their relation to the machine's memory. -/
namespace Go.T
open Go

/-- A label of mutable memory: made in function f, at slot s, the k-th there. -/
structure Lab where
  f : Nat
  s : Nat
  k : Nat
  deriving DecidableEq

inductive AV where
  | undef
  | un
  | int (k : IntKind) (n : Int)
  | bool (b : Bool)
  | str (s : ByteArray)
  | nilp
  | nilf
  | nilm
  | l (ex : Bool) (sz : Nat) (xs : List AV)
  | ip (cs : List AV)
  | agg (cs : List AV)
  | tup (vs : List AV)
  | fn (f : Fn) (caps : List AV)
  | pt (L : Lab) (sz i j : Nat)
  | os (L : Lab)
  | sl (L : Lab) (sz a n : Nat)
  | mr (L : Lab)
  | yl (L : Lab)

def AV.cells : AV → List AV
  | .agg cs => cs
  | v => [v]

/-- How code is left. -/
inductive Ex where
  | normal
  | exit (id : Nat)
  | ret
/-- A range over a function, between its rounds: it goes on, or it has been left by a jump. -/
inductive LpS where
  | ready
  | done (x : Ex)

/-- What a label holds. -/
inductive Con where
  | none
  | blk (cs : List AV)
  | arr (sz : Nat) (xs : List AV)
  | mp (es : List (AV × AV × Nat)) (clock : Nat)
  | lp (slots : Nat → AV) (n : Nat) (ps : List Nat) (asg body : Code) (s : LpS)
  | bt (T : TypeId) (cs : List AV)
  | gl (cs : List AV)
  | ba (T : TypeId) (bs : List UInt8)

/-- The function under which package variables are named. -/
@[irreducible] def glF : Nat := 2000000
/-- The label of package variable i. -/
def glL (i : Nat) : Lab := ⟨glF, i, 0⟩

/-- The abstract heap: what labels hold, and how many were made at each place; a label not made yet holds nothing. -/
structure Hp where
  con : Lab → Con
  cnt : Nat → Nat → Nat
  ok : ∀ L : Lab, cnt L.f L.s ≤ L.k → con L = .none

def Con.keep (o c : Con) : Con :=
  match o with
  | .none => .none
  | _ => c

theorem keep_none (c : Con) : Con.keep .none c = .none := by simp [Con.keep]

def Hp.set (h : Hp) (L : Lab) (c : Con) : Hp :=
  ⟨fun M => if M = L then (h.con L).keep c else h.con M, h.cnt, fun M hM => by
    have h1 := h.ok M hM
    by_cases hE : M = L
    · subst hE; rw [if_pos rfl, h1, keep_none]
    · rw [if_neg hE]; exact h1⟩
def Hp.fresh (h : Hp) (f s : Nat) : Lab := ⟨f, s, h.cnt f s⟩
def Hp.alloc (h : Hp) (f s : Nat) (c : Con) : Hp :=
  ⟨fun M => if M = ⟨f, s, h.cnt f s⟩ then c else h.con M, fun g t => if g = f ∧ t = s then h.cnt f s + 1 else h.cnt g t, fun M hM => by
    by_cases hE : M = ⟨f, s, h.cnt f s⟩
    · subst hE; simp at hM; omega
    · rw [if_neg hE]
      apply h.ok
      by_cases hs : M.f = f ∧ M.s = s
      · rw [if_pos hs] at hM; rw [hs.1, hs.2]; omega
      · rw [if_neg hs] at hM; exact hM⟩

theorem Hp.same {a b : Hp} (h1 : a.con = b.con) (h2 : a.cnt = b.cnt) : a = b := by
  cases a; cases b
  simp only at h1 h2
  subst h1; subst h2; rfl

structure Env where
  β : Lab → Addr
  η : Lab → Value

def Con.live : Con → Prop
  | .none => False
  | .lp _ _ _ _ _ _ => False
  | _ => True

/-- What a reference to a label says of the machine's value. -/
def Env.E (e : Env) (h : Hp) : AV → Value → Prop
  | .pt L sz i j, v => L.k < h.cnt L.f L.s ∧ (∃ a, v = .pointer (some a)) ∧ ((h.con L).live → v = .pointer (some ⟨(e.β L).block, (e.β L).off + (i * sz + j), .none⟩))
  | .os L, v => L.k < h.cnt L.f L.s ∧ (∃ a n c, v = .slice a n c) ∧ ((h.con L).live → v = e.η L)
  | .sl L sz a n, v => L.k < h.cnt L.f L.s ∧ (∃ p m c, v = .slice p m c) ∧ ((h.con L).live → ∃ p m c q, e.η L = .slice p m c ∧ a + n ≤ c ∧ v = .slice q n (c - a) ∧ (a < c → q = p.map (·.add (a * sz))))
  | .mr L, v => L.k < h.cnt L.f L.s ∧ (∃ a, v = .map a) ∧ ((h.con L).live → v = .map (some (e.β L).block))
  | .yl L, v => L.k < h.cnt L.f L.s ∧ v = .func (.yield (e.β L).block) #[] #[]
  | _, _ => False

inductive R (w : World) (B : Nat → Prop) (E : AV → Value → Prop) : AV → Value → Prop
  | undef (v) : R w B E .undef v
  | un : R w B E .un Go.undef
  | int (k n) : R w B E (.int k n) (.int k n)
  | bool (b) : R w B E (.bool b) (.bool b)
  | str (s) : R w B E (.str s) (.string s)
  | nilp : R w B E .nilp (.pointer none)
  | nilf : R w B E .nilf .nilFunc
  | nilm : R w B E .nilm (.map none)
  | l0 (ex sz a c) : (ex = true → c = 0) → R w B E (.l ex sz []) (.slice a 0 c)
  | l (ex sz xs b off cap) (vs : Nat → Nat → Value) : xs ≠ [] → (ex = true → cap = xs.length) → xs.length ≤ cap → B b →
      (∀ i, (h : i < xs.length) → (xs[i]).cells.length = sz) →
      (∀ i j, i < xs.length → j < sz → w.cell? ⟨b, off + (i * sz + j), .none⟩ = some (vs i j)) →
      (∀ i j, (h : i < xs.length) → j < sz → R w B E ((xs[i]).cells.getD j .undef) (vs i j)) →
      (∀ i j, i < xs.length → j < sz → (vs i j).oneCell' = true) →
      R w B E (.l ex sz xs) (.slice (some ⟨b, off, .none⟩) xs.length cap)
  | ip (cs b off) (vs : Nat → Value) : B b →
      (∀ j, j < cs.length → w.cell? ⟨b, off + j, .none⟩ = some (vs j)) →
      (∀ j, j < cs.length → R w B E (cs.getD j .undef) (vs j)) →
      R w B E (.ip cs) (.pointer (some ⟨b, off, .none⟩))
  | agg (cs) (vs : Array Value) : vs.size = cs.length → (∀ j, j < cs.length → R w B E (cs.getD j .undef) (vs.getD j undef)) → R w B E (.agg cs) (.agg vs)
  | tup (cs) (vs : Array Value) : vs.size = cs.length → (∀ j, j < cs.length → R w B E (cs.getD j .undef) (vs.getD j undef)) → R w B E (.tup cs) (.tuple vs)
  | fn (f cs) (vs : Array Value) : vs.size = cs.length → (∀ j, j < cs.length → R w B E (cs.getD j .undef) (vs.getD j undef)) → R w B E (.fn f cs) (.func f #[] vs)
  | ref (a v) : E a v → R w B E a v

theorem R.mono {w w' : World} {B B' : Nat → Prop} {E E' : AV → Value → Prop} {a : AV} {v : Value} (h : R w B E a v)
    (hw : ∀ b, B b → w'.heap[b]? = w.heap[b]?) (hB : ∀ b, B b → B' b) (hE : ∀ a v, E a v → E' a v) : R w' B' E' a v := by
  have hc : ∀ b o, B b → w'.cell? ⟨b, o, .none⟩ = w.cell? ⟨b, o, .none⟩ := by
    intro b o hb
    simp only [World.cell?, hw b hb]
  induction h with
  | undef v => exact .undef v
  | un => exact .un
  | int k n => exact .int k n
  | bool b => exact .bool b
  | str s => exact .str s
  | nilp => exact .nilp
  | nilf => exact .nilf
  | nilm => exact .nilm
  | l0 ex sz a c hx => exact .l0 ex sz a c hx
  | l ex sz xs b off cap vs h1 h2 h3 h4 h5 h6 _ h8 ih => exact .l ex sz xs b off cap vs h1 h2 h3 (hB b h4) h5 (fun i j hi hj => (hc _ _ h4).trans (h6 i j hi hj)) ih h8
  | ip cs b off vs h1 h2 _ ih => exact .ip cs b off vs (hB b h1) (fun j hj => (hc _ _ h1).trans (h2 j hj)) ih
  | agg cs vs h1 _ ih => exact .agg cs vs h1 ih
  | tup cs vs h1 _ ih => exact .tup cs vs h1 ih
  | fn f cs vs h1 _ ih => exact .fn f cs vs h1 ih
  | ref a v hr => exact .ref a v (hE a v hr)

/-- The jump that a record holds. -/
def exC : Ex → Code
  | .normal => .skip
  | .exit id => .exit id
  | .ret => .ret
def LpRel (s : LpS) (r : Loop) : Prop := match s with
  | .ready => r.state = .ready ∧ r.pending = .none
  | .done x => r.state = .done ∧ r.pending = some (exC x)

/-- Where the nil slice is said, it is the nil slice. -/
def nilOk (cs : List AV) (vs : Array Value) : Prop := ∀ j, j < cs.length → cs.getD j .undef = .l true 0 [] → vs.getD j Go.undef = .slice .none 0 0
/-- What the memory holds of a label. -/
def ConRel (w : World) (B : Nat → Prop) (e : Env) (h : Hp) (L : Lab) : Con → Prop
  | .none => True
  | .blk cs => ¬ B (e.β L).block ∧ (e.β L).off = 0 ∧ ∃ vs T, w.heap[(e.β L).block]? = some (.cells vs T (0, 0)) ∧ vs.size = cs.length ∧
      ∀ j, j < cs.length → R w B (e.E h) (cs.getD j .undef) (vs.getD j undef)
  | .arr sz xs => ∃ a cap, e.η L = .slice a xs.length cap ∧ xs.length ≤ cap ∧ (∀ i, (hi : i < xs.length) → (xs[i]).cells.length = sz) ∧
      (cap = 0 ∨ (a = some (e.β L) ∧ (e.β L).spot = .none ∧ ¬ B (e.β L).block ∧ ∃ vs T, w.heap[(e.β L).block]? = some (.cells vs T (0, 0)) ∧ (e.β L).off + cap * sz ≤ vs.size ∧
        ∀ i j, (hi : i < xs.length) → j < sz → R w B (e.E h) ((xs[i]).cells.getD j .undef) (vs.getD ((e.β L).off + (i * sz + j)) undef) ∧ (vs.getD ((e.β L).off + (i * sz + j)) undef).oneCell' = true))
  | .mp es ck => ¬ B (e.β L).block ∧ ∃ ents : Array MapEntry, w.heap[(e.β L).block]? = some (.map ents ck) ∧ ents.size = es.length ∧
      ∀ j, (hj : j < es.length) → R w B (e.E h) (es[j]).1 (ents.getD j default).key ∧ R w B (e.E h) (es[j]).2.1 (ents.getD j default).val ∧ (ents.getD j default).born = (es[j]).2.2
  | .bt T cs => ¬ B (e.β L).block ∧ (e.β L).off = 0 ∧ ∃ vs, w.heap[(e.β L).block]? = some (.cells vs T (0, 0)) ∧ (vs.size = cs.length ∧ nilOk cs vs) ∧
      ∀ j, j < cs.length → R w B (e.E h) (cs.getD j .undef) (vs.getD j undef)
  | .ba T bs => ¬ B (e.β L).block ∧ ∃ cap cur, w.heap[(e.β L).block]? = some (.cells cur T (0, 0)) ∧ (e.η L = .slice (some ⟨(e.β L).block, 0, .none⟩) bs.length cap ∧ e.β L = ⟨(e.β L).block, 0, .none⟩) ∧ bs.length ≤ cap ∧ cap ≤ maxLen ∧
      cur.size = cap * 1 ∧ cur.toList.take (bs.length * 1) = bs.map (fun b => Value.int .u8 b.toNat)
  | .gl cs => B (e.β L).block ∧ (e.β L).off = 0 ∧ ∃ vs T f, w.heap[(e.β L).block]? = some (.cells vs T f) ∧ vs.size = cs.length ∧
      ∀ j, j < cs.length → R w B (e.E h) (cs.getD j .undef) (vs.getD j undef)
  | .lp slots n ps asg body st => ¬ B (e.β L).block ∧ ∃ r : Loop, w.heap[(e.β L).block]? = some (.loop r) ∧ r.params.toList = ps ∧ r.assign = asg ∧ r.body = body ∧ r.tmps.size = n ∧ (∀ i, R w B (e.E h) (slots i) (r.tmps.getD i undef)) ∧ LpRel st r

/-- Whether a label has a block of its own. -/
def Env.has (e : Env) (h : Hp) (L : Lab) : Prop :=
  L.k < h.cnt L.f L.s ∧ match h.con L with
    | .none => False
    | .gl _ => False
    | .arr _ _ => ∃ a n c, e.η L = .slice a n c ∧ c ≠ 0
    | _ => True

structure HRel (w : World) (B : Nat → Prop) (e : Env) (h : Hp) : Prop where
  con : ∀ L, L.k < h.cnt L.f L.s → ConRel w B e h L (h.con L)
  inj : ∀ L L', e.has h L → e.has h L' → (e.β L).block = (e.β L').block → L = L'
  bnd : ∀ b, B b → b < w.heap.size
  glb : ∀ i, 0 < h.cnt glF i ∧ e.β (glL i) = ⟨i, 0, .none⟩

structure Ext (w : World) (B : Nat → Prop) (e : Env) (h : Hp) (w' : World) (B' : Nat → Prop) (e' : Env) (h' : Hp) : Prop where
  size : w.heap.size ≤ w'.heap.size
  os : w'.os = w.os
  tape : w'.tape = w.tape
  output : w'.output = w.output
  bsub : ∀ b, B b → B' b
  bnew : ∀ b, B' b → B b ∨ (∃ L, e.has h L ∧ (e.β L).block = b) ∨ w.heap.size ≤ b
  keep : ∀ b, b < w.heap.size → (∀ L, e.has h L → (e.β L).block ≠ b) → w'.heap[b]? = w.heap[b]?
  onew : ∀ L, e'.has h' L → (∃ M, e.has h M ∧ (e.β M).block = (e'.β L).block) ∨ w.heap.size ≤ (e'.β L).block
  cnt : ∀ f s, h.cnt f s ≤ h'.cnt f s
  env : ∀ L, L.k < h.cnt L.f L.s → e'.β L = e.β L ∧ e'.η L = e.η L
  live : ∀ L, L.k < h.cnt L.f L.s → (h'.con L).live → (h.con L).live

end Go.T
/- The abstract semantics of the operations and of the code, aas predicate transformers over abstract states. -/
namespace Go.T
open Go

structure St where
  slots : Nat → AV
  hp : Hp

def St.put (st : St) (d : Option Nat) (v : AV) : St :=
  match d with
  | .none => st
  | .some d => ⟨fun i => if i = d then v else st.slots i, st.hp⟩
def St.withHp (st : St) (h : Hp) : St := ⟨st.slots, h⟩

mutual
/-- The abstract value of a constant. -/
def AV.ofVal : Value → AV
  | .bool b => .bool b
  | .int k n => .int k n
  | .string s => .str s
  | .pointer .none => .nilp
  | .slice .none 0 0 => .l true 0 []
  | .map .none => .nilm
  | .nilFunc => .nilf
  | .agg ⟨cs⟩ => .agg (AV.ofVals cs)
  | _ => .undef
def AV.ofVals : List Value → List AV
  | [] => []
  | v :: vs => AV.ofVal v :: AV.ofVals vs
end

def St.ev (st : St) : Operand → AV
  | .tmp t => st.slots t
  | .const v => AV.ofVal v
  | .global i => .pt (glL i) 0 0 0
  | .func f => .fn (.func f) []

/- The type table's facts. -/
def tsz (P : Program) (t : TypeId) : Nat := match P.info? t with | some i => i.size | .none => 0
def tbytes (P : Program) (t : TypeId) : Nat := match P.info? t with | some i => i.bytes | .none => 0
/-- The type is in the table. -/
def tin (P : Program) (t : TypeId) : Bool := (P.info? t).isSome && (P.underlying t).isSome
def tok (P : Program) (t : TypeId) : Bool := (match P.info? t with | some i => (match i.zero with | some z => z.cells.toList.all (·.oneCell') && (z.cells.size == i.size) | .none => false) | .none => false) && (P.underlying t).isSome
def tzero (P : Program) (t : TypeId) : AV := match P.info? t with | some i => (match i.zero with | some v => AV.ofVal v | .none => .undef) | .none => .undef
/-- A struct whose first field points to such a struct: of its blocks the type is kept in mind. -/
def selfTy (P : Program) (t : TypeId) : Bool := match P.underlying t with
  | some (.struct fs) => (match fs[0]? with
    | some f => (match P.underlying f.type with | some (.pointer u) => u == t | _ => false)
    | .none => false)
  | _ => false
def newC (P : Program) (t : TypeId) (cs : List AV) : Con := if selfTy P t then .bt t cs else .blk cs
inductive TK where
  | bad | int (k : IntKind) | bool | string | struct | array (n : Nat) (e : TypeId) | slice (e : TypeId) | pointer | map (k e : TypeId) | func
def tk (P : Program) (t : TypeId) : TK :=
  match P.underlying t with
  | some (.int k) => .int k
  | some .bool => .bool
  | some .string => .string
  | some (.struct _) => .struct
  | some (.array n e) => .array n e
  | some (.slice e) => .slice e
  | some (.pointer _) => .pointer
  | some (.map k e) => .map k e
  | some (.func _ _ _) => .func
  | _ => .bad
def TK.agg : TK → Bool
  | .struct => true
  | .array _ _ => true
  | _ => false
/-- A field's first cell and its cells; its size is not 0. -/
def fof (P : Program) (s : TypeId) (f : Nat) : Option (Nat × Nat × TypeId) :=
  match P.underlying s with
  | some (.struct fs) => (match fs[f]? with | some x => if tsz P x.type = 0 then .none else (if tin P x.type then some (x.offset, tsz P x.type, x.type) else .none) | .none => .none)
  | _ => .none

def AV.isCell : AV → Bool
  | .undef => false
  | .un => false
  | .agg _ => false
  | .tup _ => false
  | _ => true

def setRange : List AV → Nat → List AV → List AV
  | cs, _, [] => cs
  | cs, j, v :: vs => setRange (cs.set j v) (j + 1) vs

/-- n cells from the j-th on, aas a value: an aggregate, or the one cell. -/
def part (g : Bool) (n : Nat) (cs : List AV) (j : Nat) : AV :=
  if g then .agg ((cs.drop j).take n) else cs.getD j .undef

/-- The element with cells from j on overwritten. -/
def AV.over (x : AV) (j : Nat) (vs : List AV) : AV :=
  match x with
  | .agg es => .agg (setRange es j vs)
  | x => (setRange [x] j vs).getD 0 .undef

/- Operations. -/
def loadC (c : Con) (g : Bool) (n sz i j : Nat) (K : AV → Prop) : Prop :=
  match c with
  | .blk cs => i = 0 ∧ j + n ≤ cs.length ∧ 0 < n ∧ K (part g n cs j)
  | .bt _ cs => i = 0 ∧ j + n ≤ cs.length ∧ 0 < n ∧ K (part g n cs j)
  | .gl cs => i = 0 ∧ j + n ≤ cs.length ∧ 0 < n ∧ K (part g n cs j)
  | .arr sz' xs => sz' = sz ∧ ∃ hi : i < xs.length, j + n ≤ sz ∧ 0 < n ∧ K (part g n (xs[i]).cells j)
  | _ => False
def loadK (h : Hp) (g : Bool) (n : Nat) (a : AV) (K : AV → Prop) : Prop :=
  match a with
  | .ip cs => n ≤ cs.length ∧ 0 < n ∧ K (part g n cs 0)
  | .pt L sz i j => loadC (h.con L) g n sz i j K
  | _ => False

def AV.notL : AV → Bool
  | .l _ _ _ => false
  | _ => true
def storeC (c : Con) (h : Hp) (L : Lab) (n sz i j : Nat) (vs : List AV) (K : Hp → Prop) : Prop :=
  match c with
  | .blk cs => i = 0 ∧ j + n ≤ cs.length ∧ K (h.set L (.blk (setRange cs j vs)))
  | .bt T cs => i = 0 ∧ j + n ≤ cs.length ∧ vs.all AV.notL = true ∧ K (h.set L (.bt T (setRange cs j vs)))
  | .arr sz' xs => sz' = sz ∧ ∃ hi : i < xs.length, j + n ≤ sz ∧ K (h.set L (.arr sz (xs.set i ((xs[i]).over j vs))))
  | _ => False
def storeP (h : Hp) (n : Nat) (a : AV) (vs : List AV) (K : Hp → Prop) : Prop :=
  match a with
  | .pt L sz i j => storeC (h.con L) h L n sz i j vs K
  | _ => False
def storeK (h : Hp) (n : Nat) (a v : AV) (K : Hp → Prop) : Prop :=
  v.cells.length = n ∧ v.cells.all AV.isCell = true ∧ storeP h n a v.cells K

def fieldAddrK (off : Nat) (a : AV) (K : AV → Prop) : Prop :=
  match a with
  | .ip cs => K (.ip (cs.drop off))
  | .pt L sz i j => K (.pt L sz i (j + off))
  | _ => False

/-- A part of an own slice: elements a .. a + n. -/
def viewC (c : Con) (sz a n : Nat) (K : List AV → Prop) : Prop :=
  match c with
  | .arr sz' xs => sz' = sz ∧ a + n ≤ xs.length ∧ K ((xs.drop a).take n)
  | _ => False
def indexC (c : Con) (L : Lab) (m : Nat) (i : Int) (K : AV → Prop) : Prop :=
  match c with
  | .arr sz xs => sz = m ∧ 0 ≤ i ∧ i.toNat < xs.length ∧ K (.pt L sz i.toNat 0)
  | _ => False
/-- The place of element i (an array type of n elements of size m; a slice type). -/
def indexAddrK (h : Hp) (arr : Option Nat) (m : Nat) (x ix : AV) (K : AV → Prop) : Prop :=
  match ix with
  | .int _ i =>
    match arr, x with
    | some n, .ip cs => 0 ≤ i ∧ i < n ∧ K (.ip (cs.drop (i.toNat * m)))
    | some n, .pt L sz i' j => 0 ≤ i ∧ i < n ∧ K (.pt L sz i' (j + i.toNat * m))
    | .none, .l _ sz xs => sz = m ∧ 0 ≤ i ∧ ∃ hi : i.toNat < xs.length, K (.ip (xs[i.toNat]).cells)
    | .none, .os L => indexC (h.con L) L m i K
    | .none, .sl L sz a n => viewC (h.con L) sz a n (fun _ => sz = m ∧ 0 ≤ i ∧ i.toNat < n ∧ K (.pt L sz (a + i.toNat) 0))
    | _, _ => False
  | _ => False

def indexK (arr : Option (Nat × Bool)) (m : Nat) (x ix : AV) (K : AV → Prop) : Prop :=
  match ix with
  | .int _ i =>
    match arr, x with
    | some (n, g), .agg cs => 0 ≤ i ∧ i < n ∧ i.toNat * m + m ≤ cs.length ∧ 0 < m ∧ K (part g m cs (i.toNat * m))
    | .none, .str s => 0 ≤ i ∧ ∃ hi : i.toNat < s.size, K (.int .u8 (s[i.toNat]).toNat)
    | _, _ => False
  | _ => False

def intBin (op : BinOp) (k : IntKind) (a b : Int) : Option AV :=
  match op with
  | .add => some (.int k (k.wrap (a + b)))
  | .sub => some (.int k (k.wrap (a - b)))
  | .mul => some (.int k (k.wrap (a * b)))
  | .eql => some (.bool (a == b))
  | .neq => some (.bool (a != b))
  | .lss => some (.bool (decide (a < b)))
  | .leq => some (.bool (decide (a ≤ b)))
  | .gtr => some (.bool (decide (a > b)))
  | .geq => some (.bool (decide (a ≥ b)))
  | .and => some (.int k (k.wrap (BitVec.ofInt k.bits a &&& BitVec.ofInt k.bits b).toNat))
  | .or => some (.int k (k.wrap (BitVec.ofInt k.bits a ||| BitVec.ofInt k.bits b).toNat))
  | .xor => some (.int k (k.wrap (BitVec.ofInt k.bits a ^^^ BitVec.ofInt k.bits b).toNat))
  | _ => .none

def flatFs (P : Program) (ft : TypeId → Bool) : List Field → Nat → Nat → Bool
  | [], k, n => k == n
  | f :: r, k, n => f.name != "_" && f.offset == k && decide (0 < tsz P f.type) && ft f.type && flatFs P ft r (k + tsz P f.type) n
/-- Whether values of the type are compared cell by cell: ints, and structs and arrays of such. -/
def flatTy (P : Program) : Nat → TypeId → Bool
  | 0, _ => false
  | d + 1, t => tin P t && (match P.underlying t with
    | some (.int _) => tsz P t == 1
    | some (.struct fs) => !P.stoodInHeld t && flatFs P (flatTy P d) fs.toList 0 (tsz P t)
    | some (.array n e) => flatTy P d e && tsz P t == n * tsz P e
    | _ => false)
def structEq (P : Program) (t : TypeId) : Bool := !P.eqGuardType P.depth t && flatTy P 12 t && (tk P t).agg

/-- Whether a type can be sliced aas the value asks. -/
def TK.sliceable (k : TK) (P : Program) (x : AV) : Prop :=
  match k, x with
  | .string, .str _ => True
  | .slice e, .l _ sz xs => tin P e = true ∧ (xs ≠ [] → tsz P e = sz)
  | _, _ => False

def hasBody (P : Program) (g : Nat) : Bool :=
  match P.funcs[g]? with
  | some fn => fn.body.isSome && fn.name != "runtime.NumGoroutine"
  | .none => false

/-- Equality of cells that are ints. -/
def cellsEq : List AV → List AV → Option Bool
  | [], [] => some true
  | .int k a :: r, .int k' b :: s => if k = k' then (cellsEq r s).map (fun t => (a == b) && t) else .none
  | _, _ => .none

/-- What is known of a comparison: its type's kind; whether it is one of cells of ints, of how many; whether the right side is the literal nil slice. -/
structure EqI where
  k : TK
  eok : Bool
  n : Nat
  yn : Bool
def nilSlice : Operand → Bool
  | .const (.slice .none _ _) => true
  | _ => false
def EqI.mk' (P : Program) (t : TypeId) (y : Operand) : EqI := ⟨tk P t, structEq P t, tsz P t, nilSlice y⟩
def eqK (q : EqI) (x y : AV) (K : Bool → Prop) : Prop :=
  match q.k, x, y with
  | .bool, .bool a, .bool b => K (a == b)
  | .pointer, .ip _, .nilp => K false
  | .pointer, .pt _ _ _ _, .nilp => K false
  | .pointer, .nilp, .nilp => K true
  | .func, .fn _ _, .nilf => K false
  | .func, .nilf, .nilf => K true
  | .slice _, .l _ _ xs, .l _ _ _ => q.yn = true ∧ (xs = [] → K true) ∧ K false
  | _, .agg cs, .agg ds => q.eok = true ∧ 0 < q.n ∧ cs.length = q.n ∧ ∃ b, cellsEq cs ds = some b ∧ K b
  | _, _, _ => False

def binK (q : EqI) (op : BinOp) (x y : AV) (K : AV → Prop) : Prop :=
  match x, y with
  | .int k a, .int k' b =>
    match op with
    | .shl => 0 ≤ b ∧ K (.int k (k.wrap (a * 2 ^ (min b.toNat k.bits))))
    | .shr => 0 ≤ b ∧ K (.int k (a.fdiv (2 ^ (min b.toNat k.bits))))
    | .quo => b ≠ 0 ∧ k = k' ∧ K (.int k (k.wrap (a.tdiv b)))
    | .rem => b ≠ 0 ∧ k = k' ∧ K (.int k (a.tmod b))
    | op => k = k' ∧ ∃ v, intBin op k a b = some v ∧ K v
  | .str a, .str b =>
    match op with
    | .add => a.size + b.size < 2 ^ 62 ∧ K (.str (a ++ b))
    | .eql => K (.bool (a == b))
    | .neq => K (.bool (a != b))
    | _ => False
  | x, y =>
    match op with
    | .eql => eqK q x y (fun b => K (.bool b))
    | .neq => eqK q x y (fun b => K (.bool (!b)))
    | _ => False

def unK (op : UnOp) (x : AV) (K : AV → Prop) : Prop :=
  match op, x with
  | .not, .bool b => K (.bool (!b))
  | .neg, .int k n => K (.int k (k.wrap (0 - n)))
  | .xor, .int k n => K (.int k (k.wrap (BitVec.ofInt k.bits (if k.signed then -1 else k.max) ^^^ BitVec.ofInt k.bits n).toNat))
  | _, _ => False

/-- A call of a Go function: what every machine state of this kind comes to. -/
def CallK (P : Program) (f : FuncId) (args : List AV) (h : Hp) (K : AV → Hp → Prop) : Prop :=
  ∀ (w : World) (B : Nat → Prop) (e : Env) (vs : Array Value), HRel w B e h → vs.size = args.length →
    (∀ i, i < args.length → R w B (e.E h) (args.getD i .un) (vs.getD i undef)) →
    Calls P f vs w (fun en w' => ∃ v r h' B' e', en = .returned v ∧ HRel w' B' e' h' ∧ Ext w B e h w' B' e' h' ∧ R w' B' (e'.E h') r v ∧ K r h')

/-- The wide fence, in a round or in none. -/
def wr (r : Option Nat) : Fence := { Fence.wide with round := r }
def Con.isLp : Con → Prop
  | .lp _ _ _ _ _ _ => True
  | _ => False
/-- A call of a range's yield: what every machine state of this kind comes to. -/
def YieldK (P : Program) (L : Lab) (args : List AV) (h : Hp) (K : AV → Hp → Prop) : Prop :=
  ∀ (w : World) (B : Nat → Prop) (e : Env) (vs : Array Value), HRel w B e h → L.k < h.cnt L.f L.s → vs.size = args.length →
    (∀ i, i < args.length → R w B (e.E h) (args.getD i .un) (vs.getD i undef)) →
    ∃ f tmps asg body, (Instr.yield (e.β L).block vs).run P w = .ok (.round (e.β L).block f tmps asg body) w ∧
      ∀ r m, RoundIn (wr r) m P (e.β L).block f tmps asg body w (fun en w' => ∃ v r h' B' e', en = .returned v ∧ HRel w' B' e' h' ∧ Ext w B e h w' B' e' h' ∧ R w' B' (e'.E h') r v ∧ K r h')

def lenC (c : Con) (K : AV → Prop) : Prop :=
  match c with
  | .arr _ xs => K (.int .i64 xs.length)
  | _ => False
def lenSK (x : AV) (K : AV → Prop) : Prop :=
  match x with
  | .str s => K (.int .i64 s.size)
  | _ => False
def lenK (h : Hp) (x : AV) (K : AV → Prop) : Prop :=
  match x with
  | .l _ _ xs => K (.int .i64 xs.length)
  | .os L => lenC (h.con L) K
  | .sl L sz a n => viewC (h.con L) sz a n (fun _ => K (.int .i64 n))
  | _ => False

/-- A string's bytes, as elements. -/
def bytesA (s : ByteArray) : List AV := s.data.toList.map fun b => .int .u8 b.toNat
def elemsC (c : Con) : Option (Nat × List AV) :=
  match c with
  | .arr sz xs => some (sz, xs)
  | _ => .none
def elemsV (c : Con) (sz a n : Nat) : Option (Nat × List AV) :=
  match c with
  | .arr sz' xs => if sz' = sz ∧ a + n ≤ xs.length then some (sz, (xs.drop a).take n) else .none
  | _ => .none
/-- What a slice holds: its elements. -/
def elemsOf (h : Hp) (x : AV) : Option (Nat × List AV) :=
  match x with
  | .l _ sz xs => some (sz, xs)
  | .os L => elemsC (h.con L)
  | .sl L sz a n => elemsV (h.con L) sz a n
  | _ => .none

/-- append(x, y...): elements of sz cells and by bytes. The label is new. -/
def appendC (c : Con) (h : Hp) (L : Lab) (f s sz bytes : Nat) (ys : List AV) (K : AV → Hp → Prop) : Prop :=
  match c with
  | .arr sz' xs => sz' = sz ∧ (xs.length + ys.length) * bytes ≤ 2 ^ 47 ∧ xs.length + ys.length < 2 ^ 62 ∧ 0 < bytes ∧
      K (.os (h.fresh f s)) ((h.set L .none).alloc f s (.arr sz (xs ++ ys)))
  | _ => False
/-- The same where x is a part of an own slice: what lay behind it may be written over, so the own slice is given up. -/
def appendW (c : Con) (h : Hp) (L : Lab) (f s sz bytes sz0 a n : Nat) (ys : List AV) (K : AV → Hp → Prop) : Prop :=
  match c with
  | .arr sz' xs => sz' = sz ∧ sz0 = sz ∧ a + n ≤ xs.length ∧ (n + ys.length) * bytes ≤ 2 ^ 47 ∧ n + ys.length < 2 ^ 62 ∧ 0 < bytes ∧
      K (.os (h.fresh f s)) ((h.set L .none).alloc f s (.arr sz ((xs.drop a).take n ++ ys)))
  | _ => False
def appendX (h : Hp) (f s sz bytes : Nat) (x : AV) (ys : List AV) (K : AV → Hp → Prop) : Prop :=
  match x with
  | .l true _ [] => ys.length * bytes ≤ 2 ^ 47 ∧ ys.length < 2 ^ 62 ∧ 0 < bytes ∧ K (.os (h.fresh f s)) (h.alloc f s (.arr sz ys))
  | .os L => appendC (h.con L) h L f s sz bytes ys K
  | .sl L sz0 a n => appendW (h.con L) h L f s sz bytes sz0 a n ys K
  | _ => False
def appendY (e : Option (Nat × List AV)) (sz : Nat) (K : List AV → Prop) : Prop :=
  match e with
  | some (sz', ys) => (ys ≠ [] → sz' = sz) ∧ K ys
  | .none => False
def appendS (h : Hp) (f s bytes : Nat) (x y : AV) (K : AV → Hp → Prop) : Prop :=
  match y with
  | .str t => appendX h f s 1 bytes x (bytesA t) K
  | _ => False
def appendK (h : Hp) (f s sz bytes : Nat) (x y : AV) (K : AV → Hp → Prop) : Prop :=
  appendY (elemsOf h y) sz (fun ys => appendX h f s sz bytes x ys K)

def inOrder : Nat → List (Nat × Operand) → Bool
  | _, [] => true
  | k, (i, _) :: r => (i == k) && inOrder (k + 1) r

/-- An aggregate with parts laid in. -/
def fillK (place : Nat → Option (Nat × Nat)) (cs : List AV) (ev : Operand → AV) : List (Nat × Operand) → (List AV → Prop) → Prop
  | [], K => K cs
  | (i, x) :: r, K => match place i with
    | some (off, n) => (ev x).cells.length = n ∧ (ev x).cells.all AV.isCell = true ∧ off + n ≤ cs.length ∧ fillK place (setRange cs off (ev x).cells) ev r K
    | .none => False

/-- A part of a slice or string: bounds given or not. -/
def sliceK (x : AV) (lo hi mx : Option AV) (K : AV → Prop) : Prop :=
  match x with
  | .str s =>
    match lo, hi, mx with
    | .none, some (.int _ b), .none => 0 ≤ b ∧ b ≤ s.size ∧ K (.str (s.extract 0 b.toNat))
    | some (.int _ a), .none, .none => 0 ≤ a ∧ a ≤ s.size ∧ K (.str (s.extract a.toNat s.size))
    | some (.int _ a), some (.int _ b), .none => 0 ≤ a ∧ a ≤ b ∧ b ≤ s.size ∧ K (.str (s.extract a.toNat b.toNat))
    | _, _, _ => False
  | .l ex sz xs =>
    match lo, hi, mx with
    | .none, some (.int _ b), .none => 0 ≤ b ∧ b ≤ xs.length ∧ K (.l false sz (xs.take b.toNat))
    | some (.int _ a), .none, .none => 0 ≤ a ∧ a ≤ xs.length ∧ K (.l ex sz (xs.drop a.toNat))
    | some (.int _ a), some (.int _ b), .none => 0 ≤ a ∧ a ≤ b ∧ b ≤ xs.length ∧ K (.l false sz ((xs.drop a.toNat).take (b.toNat - a.toNat)))
    | .none, some (.int _ b), some (.int _ c) => 0 ≤ b ∧ b = c ∧ b ≤ xs.length ∧ K (.l true sz (xs.take b.toNat))
    | _, _, _ => False
  | _ => False

/-- A part of a part of an own slice. -/
def viewK (L : Lab) (sz a n : Nat) (lo hi mx : Option AV) (K : AV → Prop) : Prop :=
  match lo, hi, mx with
  | .none, some (.int _ b), .none => 0 ≤ b ∧ b ≤ n ∧ K (.sl L sz a b.toNat)
  | some (.int _ c), .none, .none => 0 ≤ c ∧ c ≤ n ∧ K (.sl L sz (a + c.toNat) (n - c.toNat))
  | some (.int _ c), some (.int _ b), .none => 0 ≤ c ∧ c ≤ b ∧ b ≤ n ∧ K (.sl L sz (a + c.toNat) (b.toNat - c.toNat))
  | _, _, _ => False
def viewO (c : Con) (L : Lab) (sz : Nat) (lo hi mx : Option AV) (K : AV → Prop) : Prop :=
  match c with
  | .arr sz' xs => sz' = sz ∧ viewK L sz 0 xs.length lo hi mx K
  | _ => False
def viewP (P : Program) (k : TK) (K : Nat → Prop) : Prop :=
  match k with
  | .slice e => tin P e = true ∧ K (tsz P e)
  | _ => False
def sliceO (P : Program) (k : TK) (h : Hp) (x : AV) (lo hi mx : Option AV) (K : AV → Prop) : Prop :=
  match x with
  | .os L => viewP P k (fun sz => viewO (h.con L) L sz lo hi mx K)
  | .sl L sz a n => viewP P k (fun sz' => sz = sz' ∧ viewC (h.con L) sz a n (fun _ => viewK L sz a n lo hi mx K))
  | x => k.sliceable P x ∧ sliceK x lo hi mx K
def makeSliceK (h : Hp) (f s sz bytes : Nat) (z : AV) (n c : AV) (K : AV → Hp → Prop) : Prop :=
  match n, c with
  | .int .i64 a, .int .i64 b => a = b ∧ 0 ≤ a ∧ a * bytes ≤ 2 ^ 47 ∧ a < 2 ^ 62 ∧ z.cells.length = sz ∧ 0 < sz ∧
      K (.os (h.fresh f s)) (h.alloc f s (.arr sz (List.replicate a.toNat z)))
  | _, _ => False

def fsIn (P : Program) (t : TypeId) : Bool := match P.underlying t with
  | some (.struct fs) => fs.toList.all (fun f => tin P f.type)
  | _ => false
def pickK (c a b : AV) (K : AV → Prop) : Prop := match c with
  | .bool t => K (if t then a else b)
  | _ => False
def boxK (x : AV) (K : List AV → Prop) : Prop := x.cells.all AV.isCell = true ∧ K x.cells
def buildK (P : Program) (k : TK) (t : TypeId) (ev : Operand → AV) (parts : List (Nat × Operand)) (K : AV → Prop) : Prop := match k with
  | .struct => tok P t = true ∧ fsIn P t = true ∧ fillK (fun i => (fof P t i).map fun x => (x.1, x.2.1)) (tzero P t).cells ev parts (fun cs => K (.agg cs))
  | .array _ e => tok P t = true ∧ tin P e = true ∧ fillK (fun i => some (i * tsz P e, tsz P e)) (tzero P t).cells ev parts (fun cs => K (.agg cs))
  | _ => False
def partsK (n : Nat) : List AV → Prop
  | [] => True
  | x :: r => x.cells.length = n ∧ x.cells.all AV.isCell = true ∧ partsK n r
def buildSliceK (P : Program) (k : TK) (n : Nat) (ev : Operand → AV) (parts : List (Nat × Operand)) (K : AV → Prop) : Prop := match k with
  | .slice e => tok P e = true ∧ 0 < tsz P e ∧ inOrder 0 parts = true ∧ parts.length = n ∧ n * tsz P e ≤ 2 ^ 24 ∧
        partsK (tsz P e) (parts.map (fun p => ev p.2)) ∧ K (.l true (tsz P e) (parts.map (fun p => ev p.2)))
  | _ => False
def nilCheckK (x : AV) (K : AV → Prop) : Prop := match x with
  | .ip cs => K (.ip cs)
  | .pt L sz i j => K (.pt L sz i j)
  | _ => False
def convK (s d : TK) (x : AV) (K : AV → Prop) : Prop := match s, d, x with
  | .int _, .int k, .int _ n => K (.int k (k.wrap n))
  | _, _, _ => False
def makeSliceO (P : Program) (k : TK) (h : Hp) (f s : Nat) (n c : AV) (K : AV → Hp → Prop) : Prop := match k with
  | .slice e => tok P e = true ∧ makeSliceK h f s (tsz P e) (tbytes P e) (tzero P e) n c K
  | _ => False
def fieldAddrO (o : Option (Nat × Nat × TypeId)) (a : AV) (K : AV → Prop) : Prop := match o with
  | some (off, _, _) => fieldAddrK off a K
  | .none => False
def fieldO (P : Program) (o : Option (Nat × Nat × TypeId)) (a : AV) (K : AV → Prop) : Prop := match o, a with
  | some (off, n, t), .agg cs => off + n ≤ cs.length ∧ K (part (tk P t).agg n cs off)
  | _, _ => False
def indexAddrO (P : Program) (k : TK) (h : Hp) (x ix : AV) (K : AV → Prop) : Prop := match k with
  | .array n e => 2 ≤ n ∧ tin P e = true ∧ 0 < tsz P e ∧ indexAddrK h (some n) (tsz P e) x ix K
  | .slice e => tin P e = true ∧ 0 < tsz P e ∧ indexAddrK h .none (tsz P e) x ix K
  | _ => False
def indexO (P : Program) (k : TK) (x ix : AV) (K : AV → Prop) : Prop := match k with
  | .array n e => tin P e = true ∧ indexK (some (n, (tk P e).agg)) (tsz P e) x ix K
  | .string => indexK .none 0 x ix K
  | _ => False
def extractK (x : AV) (i : Nat) (K : AV → Prop) : Prop := match x with
  | .tup vs => ∃ hi : i < vs.length, K (vs[i])
  | _ => False
def callV (P : Program) (f : AV) (args : List AV) (h : Hp) (K : AV → Hp → Prop) : Prop := match f with
  | .fn (.func g) caps => hasBody P g = true ∧ CallK P g (args ++ caps) h K
  | .yl L => YieldK P L args h K
  | _ => False
def lenO (k : TK) (h : Hp) (x : AV) (K : AV → Prop) : Prop := match k with
  | .string => lenSK x K
  | .slice _ => lenK h x K
  | .array n _ => K (.int .i64 n)
  | _ => False
def appendO (P : Program) (k u : TK) (h : Hp) (f s : Nat) (x y : AV) (K : AV → Hp → Prop) : Prop := match k, u with
  | .slice e, .slice _ => tok P e = true ∧ appendK h f s (tsz P e) (tbytes P e) x y K
  | .slice e, .string => tok P e = true ∧ tsz P e = 1 ∧ appendS h f s (tbytes P e) x y K
  | _, _ => False
def mmK (mx : Bool) (h : Hp) (K : AV → Hp → Prop) (args : List AV) : Prop := match args with
  | [.int k a, .int _ b] => K (.int k (if mx then (if b > a then b else a) else (if b < a then b else a))) h
  | _ => False
def calleeK (P : Program) (fid s : Nat) (callee : Callee) (ats : List TypeId) (f : AV) (args : List AV) (h : Hp) (K : AV → Hp → Prop) : Prop :=
  match callee with
  | .value _ => callV P f args h K
  | .builtin .len => (match args, ats with
    | [x], [t] => lenO (tk P t) h x (fun v => K v h)
    | _, _ => False)
  | .builtin .append => (match args, ats with
    | [x, y], [t, u] => appendO P (tk P t) (tk P u) h fid s x y K
    | _, _ => False)
  | .builtin .min => mmK false h K args
  | .builtin .max => mmK true h K args
  | _ => False
def Callee.ev (ev : Operand → AV) : Callee → AV
  | .value f => ev f
  | _ => .undef

/- Maps: keys are structs of ints. -/
def AV.isInt : AV → Bool
  | .int _ _ => true
  | _ => false
def keyTy (P : Program) (k : TypeId) : Bool := structEq P k && decide (0 < tsz P k) && (match P.underlying k with
  | some (.struct fs) => fs.toList.all (fun f => tin P f.type && decide (0 < tsz P f.type) && decide (f.offset + tsz P f.type ≤ tsz P k) && (match tk P f.type with | .int _ => true | _ => false))
  | _ => false)
def keyEq (k : List AV) (a : AV) : Option Bool := match a with
  | .agg ds => cellsEq k ds
  | _ => .none
/-- Where a key stands among entries. -/
def findM (k : List AV) : List (AV × AV × Nat) → Nat → Option (Option Nat)
  | [], _ => some .none
  | e :: r, i => match keyEq k e.1 with
    | some true => some (some i)
    | some false => findM k r (i + 1)
    | .none => .none
def mres (ok : Bool) (v : AV) (b : Bool) : AV := if ok then .tup [v, .bool b] else v
def lookR (es : List (AV × AV × Nat)) (ok : Bool) (z : AV) (r : Option Nat) (K : AV → Prop) : Prop := match r with
  | .none => K (mres ok z false)
  | some i => ∃ hi : i < es.length, K (mres ok (es[i]).2.1 true)
def lookC (c : Con) (ok : Bool) (z : AV) (cs : List AV) (K : AV → Prop) : Prop := match c with
  | .mp es _ => ∃ r, findM cs es 0 = some r ∧ lookR es ok z r K
  | _ => False
def lookM (h : Hp) (x : AV) (ok : Bool) (z : AV) (cs : List AV) (K : AV → Prop) : Prop := match x with
  | .mr L => lookC (h.con L) ok z cs K
  | .nilm => K (mres ok z false)
  | _ => False
def keyK (P : Program) (kt : TypeId) (ix : AV) (K : List AV → Prop) : Prop := match ix with
  | .agg cs => keyTy P kt = true ∧ cs.length = tsz P kt ∧ cs.all AV.isInt = true ∧ K cs
  | _ => False
def lookupK (P : Program) (k : TK) (h : Hp) (x ix : AV) (ok : Bool) (K : AV → Prop) : Prop := match k with
  | .map kt et => tok P et = true ∧ keyK P kt ix (fun cs => lookM h x ok (tzero P et) cs K)
  | _ => False
def entryR (h : Hp) (L : Lab) (es : List (AV × AV × Nat)) (ck : Nat) (z : AV) (cs : List AV) (r : Option Nat) (K : AV → Hp → Prop) : Prop := match r with
  | .none => K (.tup [z, .int .i64 ck]) (h.set L (.mp (es ++ [(.agg cs, z, ck)]) (ck + 1)))
  | some i => ∃ hi : i < es.length, K (.tup [(es[i]).2.1, .int .i64 (es[i]).2.2]) h
def entryC (c : Con) (h : Hp) (L : Lab) (z : AV) (cs : List AV) (K : AV → Hp → Prop) : Prop := match c with
  | .mp es ck => ∃ r, findM cs es 0 = some r ∧ entryR h L es ck z cs r K
  | _ => False
def entryM (h : Hp) (x z : AV) (cs : List AV) (K : AV → Hp → Prop) : Prop := match x with
  | .mr L => entryC (h.con L) h L z cs K
  | _ => False
def mapEntryK (P : Program) (k : TK) (h : Hp) (x ix : AV) (K : AV → Hp → Prop) : Prop := match k with
  | .map kt et => tok P et = true ∧ keyK P kt ix (fun cs => entryM h x (tzero P et) cs K)
  | _ => False
def findB (b : Int) : List (AV × AV × Nat) → Nat → Option Nat
  | [], _ => .none
  | e :: r, i => if (e.2.2 : Int) = b then some i else findB b r (i + 1)
def estoreR (h : Hp) (L : Lab) (es : List (AV × AV × Nat)) (ck : Nat) (v : AV) (r : Option Nat) (K : Hp → Prop) : Prop := match r with
  | some i => ∃ hi : i < es.length, K (h.set L (.mp (es.set i ((es[i]).1, v, (es[i]).2.2)) ck))
  | .none => False
def estoreC (c : Con) (h : Hp) (L : Lab) (b : Int) (v : AV) (K : Hp → Prop) : Prop := match c with
  | .mp es ck => estoreR h L es ck v (findB b es 0) K
  | _ => False
def entryStoreK (h : Hp) (x s v : AV) (K : Hp → Prop) : Prop := match x, s with
  | .mr L, .int .i64 b => estoreC (h.con L) h L b v K
  | _, _ => False

/-- One operation. -/
def opK (P : Program) (fid : Nat) (o : Oper) (st : St) (K : St → Prop) : Prop :=
  match o.op with
  | .move x => K (st.put o.dst (st.ev x))
  | .assign x => K (st.put o.dst (st.ev x))
  | .pick c a b => pickK (st.ev c) (st.ev a) (st.ev b) (fun v => K (st.put o.dst v))
  | .alloc t => tok P t = true ∧ K ((st.withHp (st.hp.alloc fid (o.dst.getD 0) (newC P t (tzero P t).cells))).put o.dst (.pt (st.hp.fresh fid (o.dst.getD 0)) 0 0 0))
  | .box _ x => boxK (st.ev x) (fun cs => K ((st.withHp (st.hp.alloc fid (o.dst.getD 0) (.blk cs))).put o.dst (.pt (st.hp.fresh fid (o.dst.getD 0)) 0 0 0)))
  | .build t parts => buildK P (tk P t) t st.ev parts.toList (fun v => K (st.put o.dst v))
  | .buildSlice t n parts => buildSliceK P (tk P t) n st.ev parts.toList (fun v => K (st.put o.dst v))
  | .load t a => tin P t = true ∧ loadK st.hp (tk P t).agg (tsz P t) (st.ev a) (fun v => K (st.put o.dst v))
  | .store t a x => tin P t = true ∧ storeK st.hp (tsz P t) (st.ev a) (st.ev x) (fun h => K ((st.withHp h).put o.dst .un))
  | .nilCheck x => nilCheckK (st.ev x) (fun v => K (st.put o.dst v))
  | .binOp op xt x y _ => binK (EqI.mk' P xt y) op (st.ev x) (st.ev y) (fun v => K (st.put o.dst v))
  | .unOp op _ x => unK op (st.ev x) (fun v => K (st.put o.dst v))
  | .convert s d x => convK (tk P s) (tk P d) (st.ev x) (fun v => K (st.put o.dst v))
  | .makeFunc fn first caps => first.isEmpty = true ∧ K (st.put o.dst (.fn fn (caps.toList.map st.ev)))
  | .makeSlice t n c => makeSliceO P (tk P t) st.hp fid (o.dst.getD 0) (st.ev n) (st.ev c) (fun v h => K ((st.withHp h).put o.dst v))
  | .slice t x lo hi mx => sliceO P (tk P t) st.hp (st.ev x) (lo.map st.ev) (hi.map st.ev) (mx.map st.ev) (fun v => K (st.put o.dst v))
  | .fieldAddr s x f => fieldAddrO (fof P s f) (st.ev x) (fun v => K (st.put o.dst v))
  | .field s x f => fieldO P (fof P s f) (st.ev x) (fun v => K (st.put o.dst v))
  | .indexAddr t x ix => indexAddrO P (tk P t) st.hp (st.ev x) (st.ev ix) (fun v => K (st.put o.dst v))
  | .index t x ix => indexO P (tk P t) (st.ev x) (st.ev ix) (fun v => K (st.put o.dst v))
  | .extract x i => extractK (st.ev x) i (fun v => K (st.put o.dst v))
  | .makeMap _ .none => K ((st.withHp (st.hp.alloc fid (o.dst.getD 0) (.mp [] 0))).put o.dst (.mr (st.hp.fresh fid (o.dst.getD 0))))
  | .lookup t x ix ok => lookupK P (tk P t) st.hp (st.ev x) (st.ev ix) ok (fun v => K (st.put o.dst v))
  | .mapEntry t x ix => mapEntryK P (tk P t) st.hp (st.ev x) (st.ev ix) (fun v h => K ((st.withHp h).put o.dst v))
  | .entryStore _ x s v => entryStoreK st.hp (st.ev x) (st.ev s) (st.ev v) (fun h => K ((st.withHp h).put o.dst .un))
  | .call c => calleeK P fid (o.dst.getD 0) c.callee c.argTypes.toList (Callee.ev st.ev c.callee) (c.args.toList.map st.ev) st.hp (fun r h => K ((st.withHp h).put o.dst r))
  | _ => False

def guardK (c : AV) (want : Bool) (A : Prop) (B : Prop) (C : Prop) : Prop := match c with
  | .bool b => (b = want → A) ∧ (b = !want → B)
  | .un => C
  | _ => False
def guardO (s : Option Nat) (f : Nat → Prop) : Prop := match s with
  | some d => f d
  | .none => False
def guardG (g : Option (Nat × Bool)) (A : Prop) (f : Nat → Bool → Prop) : Prop := match g with
  | .none => A
  | some (j, want) => f j want

/-- A contract of a pure function: in every heap it answers r. -/
def PureF (P : Program) (f : FuncId) (args : List AV) (r : AV) : Prop := ∀ h, CallK P f args h (fun r' h' => r' = r ∧ h' = h)

/-- What is shown of an operation beside what it does, where the order is drawn: a call of a pure function; a load from a variable's own cells;
a load that is not from the variables made at the slots ss of this activation's function; a store into the variable made at the slot of its place. -/
inductive Tg where
  | plain
  | pure
  | blk
  | avoid (ss : List Nat)
  | mine
  | frz
  | bts

def pureK (P : Program) (f : AV) (args : List AV) (K : AV → Prop) : Prop := match f with
  | .fn (.func g) caps => hasBody P g = true ∧ ∃ v, PureF P g (args ++ caps) v ∧ K v
  | _ => False
def pureO (P : Program) (o : Op) (st : St) (K : AV → Prop) : Prop := match o with
  | .call ⟨.value f, args, _⟩ => pureK P (st.ev f) (args.toList.map st.ev) K
  | _ => False
def isBlk (c : Con) : Prop := match c with
  | .blk _ => True
  | _ => False
def blkK (h : Hp) (a : AV) : Prop := match a with
  | .ip _ => True
  | .pt L _ _ _ => isBlk (h.con L)
  | _ => False
def blkO (o : Op) (st : St) : Prop := match o with
  | .load _ a => blkK st.hp (st.ev a)
  | _ => False
def avoidK (fid : Nat) (ss : List Nat) (a : AV) : Prop := match a with
  | .ip _ => True
  | .pt L _ _ _ => L.f = fid → L.s ∉ ss
  | _ => False
def avoidO (fid : Nat) (ss : List Nat) (o : Op) (st : St) : Prop := match o with
  | .load _ a => avoidK fid ss (st.ev a)
  | _ => False
def mineK (fid s : Nat) (a : AV) : Prop := match a with
  | .pt L _ _ _ => L.f = fid ∧ L.s = s
  | _ => False
def mineO (fid : Nat) (o : Op) (st : St) : Prop := match o with
  | .store _ (.tmp t) _ => mineK fid t (st.slots t)
  | _ => False
/-- append to an empty literal, what it answers taken for a value at once. -/
def frzX (sz bytes : Nat) (x : AV) (ys : List AV) (K : AV → Prop) : Prop := match x with
  | .l true _ [] => ys.length * bytes ≤ 2 ^ 47 ∧ ys.length < 2 ^ 62 ∧ 0 < bytes ∧ K (.l false sz ys)
  | _ => False
def frzA (P : Program) (k u : TK) (h : Hp) (x y : AV) (K : AV → Prop) : Prop := match k, u with
  | .slice e, .slice _ => tok P e = true ∧ appendY (elemsOf h y) (tsz P e) (fun ys => frzX (tsz P e) (tbytes P e) x ys K)
  | _, _ => False
def frzL (P : Program) (h : Hp) (args : List AV) (ats : List TypeId) (K : AV → Prop) : Prop := match args, ats with
  | [x, y], [t, u] => frzA P (tk P t) (tk P u) h x y K
  | _, _ => False
def frzO (P : Program) (o : Op) (st : St) (K : AV → Prop) : Prop := match o with
  | .call ⟨.builtin .append, args, ats⟩ => frzL P st.hp (args.toList.map st.ev) ats.toList K
  | _ => False
/-- append of bytes to a row of bytes whose type is kept in mind. -/
def bytesL (bs : List UInt8) : List AV := bs.map fun b => .int .u8 b.toNat
def btsC (c : Con) (h : Hp) (L : Lab) (f s : Nat) (e : TypeId) (bs : List UInt8) (K : AV → Hp → Prop) : Prop := match c with
  | .ba e' cs => e' = e ∧ cs ≠ [] ∧ cs.length + bs.length ≤ 2 ^ 47 ∧ K (.os (h.fresh f s)) ((h.set L .none).alloc f s (.ba e (cs ++ bs)))
  | _ => False
def btsX (h : Hp) (f s : Nat) (e : TypeId) (k : TK) (x : AV) (bs : List UInt8) (K : AV → Hp → Prop) : Prop := match k, x with
  | .string, .l true 0 [] => bs ≠ [] ∧ bs.length ≤ 2 ^ 47 ∧ K (.os (h.fresh f s)) (h.alloc f s (.ba e bs))
  | _, .os L => btsC (h.con L) h L f s e bs K
  | _, _ => False
def btsY (u : TK) (y : AV) (K : List UInt8 → Prop) : Prop := match u, y with
  | .string, .str t => K t.data.toList
  | .slice _, .l _ 1 [.int .u8 n] => ∃ b : UInt8, n = b.toNat ∧ K [b]
  | _, _ => False
def btsE (P : Program) (e : TypeId) : Bool := tok P e && tsz P e == 1 && tbytes P e == 1 && (match P.info? e with | some i => (match i.zero with | some (.int .u8 0) => true | _ => false) | .none => false)
def btsU (k : TK) (t u : TypeId) : Prop := match k with
  | .slice _ => t = u
  | _ => True
def btsA (P : Program) (k u : TK) (f s : Nat) (h : Hp) (x y : AV) (K : AV → Hp → Prop) : Prop := match k with
  | .slice e => btsE P e = true ∧ btsY u y (fun bs => btsX h f s e u x bs K)
  | _ => False
def btsL (P : Program) (f s : Nat) (h : Hp) (args : List AV) (ats : List TypeId) (K : AV → Hp → Prop) : Prop := match args, ats with
  | [x, y], [t, u] => btsU (tk P u) t u ∧ btsA P (tk P t) (tk P u) f s h x y K
  | _, _ => False
def btsO (P : Program) (fid : Nat) (o : Oper) (st : St) (K : St → Prop) : Prop := match o.op with
  | .call ⟨.builtin .append, args, ats⟩ => btsL P fid (o.dst.getD 0) st.hp (args.toList.map st.ev) ats.toList (fun v h => K ((st.withHp h).put o.dst v))
  | _ => False
def opT (P : Program) (fid : Nat) (tg : Tg) (o : Oper) (st : St) (K : St → Prop) : Prop := match tg with
  | .plain => opK P fid o st K
  | .pure => pureO P o.op st (fun v => K (st.put o.dst v))
  | .blk => blkO o.op st ∧ opK P fid o st K
  | .avoid ss => avoidO fid ss o.op st ∧ opK P fid o st K
  | .mine => mineO fid o.op st ∧ opK P fid o st K
  | .frz => frzO P o.op st (fun v => K (st.put o.dst v))
  | .bts => btsO P fid o st K

def headT (tg : List Tg) : Tg := match tg with
  | t :: _ => t
  | [] => .plain
def tailT (tg : List Tg) : List Tg := match tg with
  | _ :: r => r
  | [] => []

/-- A region's operations, one behind the other: 'done': the slots of those ahead. -/
def opsK (P : Program) (fid : Nat) : List Tg → List (Option Nat) → List Oper → St → (St → Prop) → Prop
  | _, _, [], st, K => K st
  | tg, done, o :: r, st, K =>
    guardG o.guard
      (opT P fid (headT tg) o st (fun st' => opsK P fid (tailT tg) (done ++ [o.dst]) r st' K))
      (fun j want => guardO (done.getD j .none) fun d => guardK (st.slots d) want
        (opT P fid (headT tg) o (st.put (some d) (.bool want)) (fun st' => opsK P fid (tailT tg) (done ++ [o.dst]) r st' K))
        (opsK P fid (tailT tg) (done ++ [o.dst]) r ((st.put (some d) (.bool (!want))).put o.dst .un) K)
        (opsK P fid (tailT tg) (done ++ [o.dst]) r (st.put o.dst .un) K))

def condK (c : AV) (A B : Prop) : Prop := match c with
  | .bool t => (t = true → A) ∧ (t = false → B)
  | _ => False

def thenQ (N : St → Prop) (Q : Ex → St → Prop) : Ex → St → Prop
  | .normal, s => N s
  | e, s => Q e s
def blockQ (id : Nat) (Q : Ex → St → Prop) : Ex → St → Prop
  | .exit id', s => if id' = id then Q .normal s else Q (.exit id') s
  | e, s => Q e s

/-- How many slots a function has. -/
def ntm (P : Program) (f : FuncId) : Nat := match P.funcs[f]? with
  | some fn => fn.ntmps
  | .none => 0
/-- The slot under which a function's ranges are named. -/
@[irreducible] def lpSlot : Nat := 1000000
/-- The range has ended: it goes on behind it, or by the jump. -/
def endLpC (c : Con) (K : Ex → Prop) : Prop := match c with
  | .lp _ _ _ _ _ .ready => K .normal
  | .lp _ _ _ _ _ (.done (.exit id)) => K (.exit id)
  | .lp _ _ _ _ _ (.done .ret) => K .ret
  | _ => False
def rangeK (P : Program) (fid : Nat) (g : AV) (ps : List Nat) (asg body : Code) (Q : Ex → St → Prop) (st : St) : Prop := match g with
  | .fn (.func gf) caps => hasBody P gf = true ∧ CallK P gf (.yl (st.hp.fresh fid lpSlot) :: caps) (st.hp.alloc fid lpSlot (.lp st.slots (ntm P fid) ps asg body .ready))
      (fun _ h => endLpC (h.con (st.hp.fresh fid lpSlot)) (fun x => Q x ⟨st.slots, h.set (st.hp.fresh fid lpSlot) .none⟩))
  | _ => False

def awp (P : Program) (fid : Nat) (T : Nat → List Tg) : Code → (Ex → St → Prop) → St → Prop
  | .skip, Q, st => Q .normal st
  | .region id ops _, Q, st => opsK P fid (T id) [] ops.toList st (Q .normal)
  | .seq a b, Q, st => awp P fid T a (thenQ (awp P fid T b Q) Q) st
  | .cond c a b, Q, st => condK (st.ev c) (awp P fid T a Q st) (awp P fid T b Q st)
  | .block id c, Q, st => awp P fid T c (blockQ id Q) st
  | .loop c, Q, st => ∃ (I : St → Prop) (μ : St → Nat), I st ∧ ∀ s, I s → awp P fid T c (thenQ (fun s' => I s' ∧ μ s' < μ s) Q) s
  | .exit id, Q, st => Q (.exit id) st
  | .label _, Q, st => Q .normal st
  | .scope c, Q, st => awp P fid T c Q st
  | .ret, Q, st => Q .ret st
  | .rangeFunc g ps asg body, Q, st => rangeK P fid (st.ev g) ps.toList asg body Q st
  | _, _, _ => False

/-- The results of a function at its end. -/
def resK (P : Program) : List ResultVar → St → (List AV → Prop) → Prop
  | [], _, K => K []
  | .tmp t :: r, st, K => resK P r st (fun vs => K (st.slots t :: vs))
  | .cell a t :: r, st, K => tin P t = true ∧ loadK st.hp (tk P t).agg (tsz P t) (st.slots a) (fun v => resK P r st (fun vs => K (v :: vs)))

def oneOf : List AV → AV
  | [v] => v
  | vs => .tup vs

/-- At the end: the results; of the heap what was made may be let go. -/
def endK (P : Program) (fn : Func) (K : AV → Hp → Prop) : Ex → St → Prop
  | .exit _, _ => False
  | _, st => resK P fn.results.toList st (fun vs => ∃ h : Hp, (∀ L, h.con L = .none ∨ h.con L = st.hp.con L) ∧ h.cnt = st.hp.cnt ∧ K (oneOf vs) h)

def enter (args : List AV) (h : Hp) : St := ⟨fun i => args.getD i .un, h⟩

end Go.T
/- Soundness of the abstract operations, first part: values, places, reads. -/
namespace Go.T
open Go

/-- The relation between an abstract state and an activation. -/
structure Rel (w : World) (B : Nat → Prop) (e : Env) (n : Nat) (st : St) (a : Act) : Prop where
  hp : HRel w B e st.hp
  slots : ∀ i, R w B (e.E st.hp) (st.slots i) (a.tmps.getD i undef)
  size : a.tmps.size = n

theorem ofVal_R {w : World} {B : Nat → Prop} {E : AV → Value → Prop} (v : Value) : R w B E (AV.ofVal v) v := by
  have key : ∀ n (v : Value), SizeOf.sizeOf v ≤ n → R w B E (AV.ofVal v) v := by
    intro n
    induction n with
    | zero => intro v h; cases v <;> simp at h
    | succ n ih =>
      intro v h
      unfold AV.ofVal
      split
      · exact .bool _
      · exact .int _ _
      · exact .str _
      · exact .nilp
      · exact .l0 _ _ _ _ (fun _ => rfl)
      · exact .nilm
      · exact .nilf
      · rename_i cs
        have hl : ∀ cs : List Value, (AV.ofVals cs).length = cs.length := by
          intro cs; induction cs with
          | nil => rfl
          | cons x xs ihx => simp [AV.ofVals, ihx]
        have hg : ∀ (cs : List Value), SizeOf.sizeOf cs ≤ n → ∀ j, j < cs.length → R w B E ((AV.ofVals cs).getD j .undef) (cs.getD j undef) := by
          intro cs
          induction cs with
          | nil => intro _ j hj; simp at hj
          | cons x xs ihx =>
            intro hs j hj
            simp only [List.cons.sizeOf_spec] at hs
            cases j with
            | zero => simp only [AV.ofVals, List.getD_cons_zero]; exact ih x (by omega)
            | succ j => simp only [AV.ofVals, List.getD_cons_succ]; exact ihx (by omega) j (by simpa using hj)
        refine .agg _ _ (by simp [hl]) (fun j hj => ?_)
        have := hg cs (by simp at h; omega) j (by simpa [hl] using hj)
        simpa using this
      · exact .undef _
  exact key _ v (Nat.le_refl _)

theorem ev_R {w : World} {B : Nat → Prop} {e : Env} {n : Nat} {st : St} {a : Act} (h : Rel w B e n st a) (x : Operand) : R w B (e.E st.hp) (st.ev x) (a.eval x) := by
  cases x with
  | tmp t => exact h.slots t
  | const v => exact ofVal_R v
  | global g =>
    obtain ⟨h1, h2⟩ := h.hp.glb g
    exact .ref _ _ ⟨h1, ⟨_, rfl⟩, fun _ => by rw [h2]; rfl⟩
  | func f => exact .fn _ [] #[] rfl (fun j hj => by simp at hj)

theorem put_slots (st : St) (d : Nat) (v : AV) (m : Nat) : (st.put (some d) v).slots m = if m = d then v else st.slots m := by
  simp [St.put]
theorem put_none (st : St) (v : AV) : st.put .none v = st := by simp [St.put]
theorem put_hp (st : St) (d : Option Nat) (v : AV) : (st.put d v).hp = st.hp := by cases d <;> simp [St.put]
theorem withHp_slots (st : St) (h : Hp) (m : Nat) : (st.withHp h).slots m = st.slots m := by simp [St.withHp]
theorem withHp_hp (st : St) (h : Hp) : (st.withHp h).hp = h := by simp [St.withHp]

theorem Rel.put {w : World} {B : Nat → Prop} {e : Env} {n : Nat} {st : St} {a : Act} (h : Rel w B e n st a) (d : Option Nat) (av : AV) (v : Value)
    (hv : R w B (e.E st.hp) av v) (hd : ∀ x, d = some x → x < n) : Rel w B e n (st.put d av) (a.put d v) := by
  cases d with
  | none => simpa [put_none, Act.put] using h
  | some d =>
    refine ⟨by rw [put_hp]; exact h.hp, fun i => ?_, by simp [Act.put, h.size]⟩
    rw [put_slots, put_hp]
    have hdn := hd d rfl
    by_cases hi : i = d
    · subst hi
      simp only [if_true, Act.put]
      have : (a.tmps.setIfInBounds i v).getD i undef = v := by
        simp [h.size, hdn]
      rw [this]; exact hv
    · simp only [if_neg hi, Act.put]
      have : (a.tmps.setIfInBounds d v).getD i undef = a.tmps.getD i undef := by
        simp [Ne.symm hi]
      rw [this]; exact h.slots i

theorem addr_add (b o n : Nat) : (⟨b, o, none⟩ : Addr).add n = ⟨b, o + n, none⟩ := by
  unfold Addr.add; split <;> simp_all

theorem tin_parts {P : Program} {t : TypeId} (h : tin P t = true) : ∃ i d, P.info? t = some i ∧ P.underlying t = some d ∧ tsz P t = i.size := by
  unfold tin at h
  cases hi : P.info? t with
  | none => simp [hi] at h
  | some i =>
    cases hu : P.underlying t with
    | none => simp [hu] at h
    | some d => exact ⟨i, d, rfl, rfl, by simp [tsz, hi]⟩

theorem run_isAgg {P : Program} {t : TypeId} (w : World) (h : tin P t = true) : (isAgg t).run P w = .ok (tk P t).agg w := by
  obtain ⟨i, d, hi, hu, _⟩ := tin_parts h
  unfold isAgg
  rw [Sem.run_bind, run_underlying hu w]
  unfold tk
  rw [hu]
  cases d <;> simp [TK.agg]

theorem run_sizeOf {P : Program} {t : TypeId} (w : World) (h : tin P t = true) : (Go.sizeOf t).run P w = .ok (tsz P t) w := by
  obtain ⟨i, d, hi, hu, hs⟩ := tin_parts h
  simp [Go.sizeOf, typeInfo, hi, hs]

def rowVal (g : Bool) (n : Nat) (vs : Nat → Value) : Value := if g then .agg ((List.range n).map vs).toArray else vs 0

/-- A variable's value is read where its cells are known. -/
theorem run_loadVar {P : Program} {t : TypeId} (w : World) (h : tin P t = true) (b off : Nat) (vs : Nat → Value) (hn : 0 < tsz P t)
    (hc : ∀ j, j < tsz P t → w.cell? ⟨b, off + j, none⟩ = some (vs j)) :
    (loadVar t ⟨b, off, none⟩).run P w = .ok (rowVal (tk P t).agg (tsz P t) vs) w := by
  unfold loadVar rowVal
  rw [Sem.run_bind, run_isAgg w h]
  simp only [Result.andThen_ok]
  cases hg : (tk P t).agg with
  | false =>
    have h0 := hc 0 hn
    simp only [Nat.add_zero] at h0
    simp [h0]
  | true =>
    simp only [if_true, Sem.run_bind, run_sizeOf w h, Result.andThen_ok]
    rw [run_loadCells (P := P) w ⟨b, off, none⟩ (tsz P t) vs (fun j hj => by rw [addr_add]; exact hc j hj)]
    simp

theorem part_R {w : World} {B : Nat → Prop} {E : AV → Value → Prop} {g : Bool} {n : Nat} {cs : List AV} {k : Nat} {vs : Nat → Value} (hk : k + n ≤ cs.length) (hn : 0 < n)
    (h : ∀ j, j < n → R w B E (cs.getD (k + j) .undef) (vs j)) : R w B E (part g n cs k) (rowVal g n vs) := by
  unfold part rowVal
  cases g with
  | false => simpa using h 0 hn
  | true =>
    simp only [if_true]
    refine .agg _ _ (by simp; omega) (fun j hj => ?_)
    have hj' : j < n := by simp at hj; omega
    have := h j hj'
    have h1 : ((cs.drop k).take n).getD j AV.undef = cs.getD (k + j) .undef := by
      simp [hj', List.getElem?_drop]
    rw [h1]
    have h2 : (((List.range n).map vs).toArray).getD j undef = vs j := by
      simp [hj']
    rw [h2]; exact this

theorem getD_row {vs : Array Value} {w : World} {b k : Nat} {T : TypeId} {fr : Nat × Nat} (hb : w.heap[b]? = some (.cells vs T fr)) (hk : k < vs.size) : w.cell? ⟨b, k, none⟩ = some (vs.getD k undef) := by
  rw [cell_of_row w b k vs T fr hb]
  simp [hk]

theorem E_pt {e : Env} {h : Hp} {L : Lab} {sz i j : Nat} {v : Value} (hE : e.E h (.pt L sz i j) v) (hl : (h.con L).live) :
    L.k < h.cnt L.f L.s ∧ v = .pointer (some ⟨(e.β L).block, (e.β L).off + (i * sz + j), none⟩) := ⟨hE.1, hE.2.2 hl⟩

theorem R_pt {w : World} {B : Nat → Prop} {e : Env} {h : Hp} {L : Lab} {sz i j : Nat} {v : Value} (hR : R w B (e.E h) (.pt L sz i j) v) : e.E h (.pt L sz i j) v := by
  cases hR with
  | ref _ _ h => exact h
theorem R_os {w : World} {B : Nat → Prop} {e : Env} {h : Hp} {L : Lab} {v : Value} (hR : R w B (e.E h) (.os L) v) : e.E h (.os L) v := by
  cases hR with
  | ref _ _ h => exact h

theorem R_sl {w : World} {B : Nat → Prop} {e : Env} {h : Hp} {L : Lab} {sz a n : Nat} {v : Value} (hR : R w B (e.E h) (.sl L sz a n) v) : e.E h (.sl L sz a n) v := by
  cases hR with
  | ref _ _ h => exact h
theorem R_yl {w : World} {B : Nat → Prop} {e : Env} {h : Hp} {L : Lab} {v : Value} (hR : R w B (e.E h) (.yl L) v) : L.k < h.cnt L.f L.s ∧ v = .func (.yield (e.β L).block) #[] #[] := by
  cases hR with
  | ref _ _ h => exact h

theorem R_ip {w : World} {B : Nat → Prop} {e : Env} {h : Hp} {cs : List AV} {v : Value} (hR : R w B (e.E h) (.ip cs) v) :
    ∃ (b off : Nat) (vs : Nat → Value), v = .pointer (some ⟨b, off, none⟩) ∧ B b ∧ (∀ j, j < cs.length → w.cell? ⟨b, off + j, none⟩ = some (vs j)) ∧ ∀ j, j < cs.length → R w B (e.E h) (cs.getD j .undef) (vs j) := by
  cases hR with
  | ip _ b off vs h1 h2 h3 => exact ⟨b, off, vs, rfl, h1, h2, h3⟩
  | ref _ _ h => exact h.elim

/-- Reading through a pointer. -/
theorem loadK_sound {P : Program} {w : World} {B : Nat → Prop} {e : Env} {h : Hp} (hh : HRel w B e h) {t : TypeId} (ht : tin P t = true) {a : AV} {v : Value}
    (hv : R w B (e.E h) a v) {K : AV → Prop} (hK : loadK h (tk P t).agg (tsz P t) a K) :
    ∃ x av, (Instr.loadAt t v).run P w = .ok x w ∧ R w B (e.E h) av x ∧ K av := by
  unfold loadK at hK
  split at hK
  · rename_i cs
    obtain ⟨h1, h2, hK⟩ := hK
    obtain ⟨b, off, vs, rfl, _, hc, hr⟩ := R_ip hv
    refine ⟨rowVal (tk P t).agg (tsz P t) vs, _, ?_, ?_, hK⟩
    · simp only [Instr.loadAt, Instr.sureAddr, Sem.run_bind, Sem.run_pure, Result.andThen_ok]
      exact run_loadVar w ht b off vs h2 (fun j hj => hc j (by omega))
    · exact part_R (by omega) h2 (fun j hj => by rw [Nat.zero_add]; exact hr j (by omega))
  · rename_i L sz i j
    unfold loadC at hK
    split at hK
    · rename_i cs hcon
      obtain ⟨rfl, h1, h2, hK⟩ := hK
      obtain ⟨hk, rfl⟩ := E_pt (R_pt hv) (by rw [hcon]; trivial)
      have hc := hh.con L hk
      rw [hcon] at hc
      obtain ⟨_, hoff, vs, T, hb, hs, hr⟩ := hc
      refine ⟨rowVal (tk P t).agg (tsz P t) (fun x => vs.getD (j + x) undef), _, ?_, ?_, hK⟩
      · simp only [Instr.loadAt, Instr.sureAddr, Sem.run_bind, Sem.run_pure, Result.andThen_ok]
        exact run_loadVar w ht _ _ (fun x => vs.getD (j + x) undef) h2 (fun x hx => by
          rw [hoff, Nat.zero_add, Nat.zero_mul, Nat.zero_add]; exact getD_row hb (by omega))
      · exact part_R h1 h2 (fun x hx => hr _ (by omega))
    · rename_i T cs hcon
      obtain ⟨rfl, h1, h2, hK⟩ := hK
      obtain ⟨hk, rfl⟩ := E_pt (R_pt hv) (by rw [hcon]; trivial)
      have hc := hh.con L hk
      rw [hcon] at hc
      obtain ⟨_, hoff, vs, hb, ⟨hs, _⟩, hr⟩ := hc
      refine ⟨rowVal (tk P t).agg (tsz P t) (fun x => vs.getD (j + x) undef), _, ?_, ?_, hK⟩
      · simp only [Instr.loadAt, Instr.sureAddr, Sem.run_bind, Sem.run_pure, Result.andThen_ok]
        exact run_loadVar w ht _ _ (fun x => vs.getD (j + x) undef) h2 (fun x hx => by
          rw [hoff, Nat.zero_add, Nat.zero_mul, Nat.zero_add]; exact getD_row hb (by omega))
      · exact part_R h1 h2 (fun x hx => hr _ (by omega))
    · rename_i cs hcon
      obtain ⟨rfl, h1, h2, hK⟩ := hK
      obtain ⟨hk, rfl⟩ := E_pt (R_pt hv) (by rw [hcon]; trivial)
      have hc := hh.con L hk
      rw [hcon] at hc
      obtain ⟨_, hoff, vs, T, f, hb, hs, hr⟩ := hc
      refine ⟨rowVal (tk P t).agg (tsz P t) (fun x => vs.getD (j + x) undef), _, ?_, ?_, hK⟩
      · simp only [Instr.loadAt, Instr.sureAddr, Sem.run_bind, Sem.run_pure, Result.andThen_ok]
        exact run_loadVar w ht _ _ (fun x => vs.getD (j + x) undef) h2 (fun x hx => by
          rw [hoff, Nat.zero_add, Nat.zero_mul, Nat.zero_add]; exact getD_row hb (by omega))
      · exact part_R h1 h2 (fun x hx => hr _ (by omega))
    · rename_i sz' xs hcon
      obtain ⟨rfl, hi, h1, h2, hK⟩ := hK
      obtain ⟨hk, rfl⟩ := E_pt (R_pt hv) (by rw [hcon]; trivial)
      have hc := hh.con L hk
      rw [hcon] at hc
      obtain ⟨a', cap, hη, hcap, hsz, hcase⟩ := hc
      rcases hcase with h0 | ⟨_, _, _, vs, T, hb, hs, hr⟩
      · omega
      refine ⟨rowVal (tk P t).agg (tsz P t) (fun x => vs.getD ((e.β L).off + (i * sz' + (j + x))) undef), _, ?_, ?_, hK⟩
      · simp only [Instr.loadAt, Instr.sureAddr, Sem.run_bind, Sem.run_pure, Result.andThen_ok]
        refine run_loadVar w ht _ _ (fun x => vs.getD ((e.β L).off + (i * sz' + (j + x))) undef) h2 (fun x hx => ?_)
        have : (e.β L).off + (i * sz' + j) + x = (e.β L).off + (i * sz' + (j + x)) := by omega
        rw [this]
        refine getD_row hb ?_
        have : (i + 1) * sz' ≤ cap * sz' := Nat.mul_le_mul_right _ (by omega)
        rw [Nat.add_mul] at this
        omega
      · exact part_R (by rw [hsz i hi]; exact h1) h2 (fun x hx => (hr i _ hi (by omega)).1)
    · exact hK.elim
  · exact hK.elim

end Go.T
/- Soundness, second part: how the heap's relation is carried over a new block and over a write. -/
namespace Go.T
open Go

theorem HRel.lt {w : World} {B : Nat → Prop} {e : Env} {h : Hp} (hh : HRel w B e h) {L : Lab} (hL : e.has h L) : (e.β L).block < w.heap.size ∧ ¬ B (e.β L).block := by
  obtain ⟨hk, hL⟩ := hL
  have hc := hh.con L hk
  have aux : ∀ {o}, w.heap[(e.β L).block]? = some o → (e.β L).block < w.heap.size := by
    intro o ho
    rcases Nat.lt_or_ge (e.β L).block w.heap.size with h | h
    · exact h
    · simp [Array.getElem?_eq_none h] at ho
  cases hcon : h.con L with
  | none => rw [hcon] at hL; exact hL.elim
  | blk cs =>
    rw [hcon] at hc
    obtain ⟨h1, _, vs, T, hb, _⟩ := hc
    exact ⟨aux hb, h1⟩
  | bt T cs =>
    rw [hcon] at hc
    obtain ⟨h1, _, vs, hb, _⟩ := hc
    exact ⟨aux hb, h1⟩
  | gl cs => rw [hcon] at hL; exact hL.elim
  | ba T bs =>
    rw [hcon] at hc
    obtain ⟨h1, _, _, hb, _⟩ := hc
    exact ⟨aux hb, h1⟩
  | arr sz xs =>
    rw [hcon] at hc hL
    obtain ⟨a, cap, hη, _, _, hc⟩ := hc
    obtain ⟨a', n', c', hη', hne⟩ := hL
    rw [hη] at hη'
    injection hη' with _ _ h3
    rcases hc with h0 | ⟨_, _, h1, vs, T, hb, _⟩
    · omega
    · exact ⟨aux hb, h1⟩
  | mp es ck =>
    rw [hcon] at hc
    obtain ⟨h1, ents, hb, _⟩ := hc
    exact ⟨aux hb, h1⟩
  | lp sl n ps asg bd st =>
    rw [hcon] at hc
    obtain ⟨h1, r, hb, _⟩ := hc
    exact ⟨aux hb, h1⟩

theorem HRel.notB {w : World} {B : Nat → Prop} {e : Env} {h : Hp} (hh : HRel w B e h) {b : Nat} (hb : B b) : ∀ L, e.has h L → (e.β L).block ≠ b := by
  intro L hL hE
  exact (hh.lt hL).2 (hE ▸ hb)

theorem E.ext {w w' : World} {B B' : Nat → Prop} {e e' : Env} {h h' : Hp} (x : Ext w B e h w' B' e' h') {a : AV} {v : Value} (hE : e.E h a v) : e'.E h' a v := by
  cases a with
  | pt L sz i j =>
    obtain ⟨h1, h2, h3⟩ := hE
    refine ⟨Nat.lt_of_lt_of_le h1 (x.cnt _ _), h2, fun hl => ?_⟩
    rw [(x.env L h1).1]
    exact h3 (x.live L h1 hl)
  | os L =>
    obtain ⟨h1, h2, h3⟩ := hE
    refine ⟨Nat.lt_of_lt_of_le h1 (x.cnt _ _), h2, fun hl => ?_⟩
    rw [(x.env L h1).2]
    exact h3 (x.live L h1 hl)
  | mr L =>
    obtain ⟨h1, h2, h3⟩ := hE
    refine ⟨Nat.lt_of_lt_of_le h1 (x.cnt _ _), h2, fun hl => ?_⟩
    rw [(x.env L h1).1]
    exact h3 (x.live L h1 hl)
  | sl L sz a n =>
    obtain ⟨h1, h2, h3⟩ := hE
    refine ⟨Nat.lt_of_lt_of_le h1 (x.cnt _ _), h2, fun hl => ?_⟩
    rw [(x.env L h1).2]
    exact h3 (x.live L h1 hl)
  | yl L =>
    obtain ⟨h1, h2⟩ := hE
    exact ⟨Nat.lt_of_lt_of_le h1 (x.cnt _ _), by rw [(x.env L h1).1]; exact h2⟩
  | _ => exact hE.elim

theorem R.ext {w w' : World} {B B' : Nat → Prop} {e e' : Env} {h h' : Hp} (hh : HRel w B e h) (x : Ext w B e h w' B' e' h') {a : AV} {v : Value} (hR : R w B (e.E h) a v) :
    R w' B' (e'.E h') a v :=
  hR.mono (fun b hb => x.keep b (hh.bnd b hb) (hh.notB hb)) x.bsub (fun _ _ hE => E.ext x hE)

theorem Ext.refl (w : World) (B : Nat → Prop) (e : Env) (h : Hp) : Ext w B e h w B e h :=
  ⟨Nat.le_refl _, rfl, rfl, rfl, fun _ h => h, fun _ h => .inl h, fun _ _ _ => rfl, fun L hL => .inl ⟨L, hL, rfl⟩, fun _ _ => Nat.le_refl _, fun _ _ => ⟨rfl, rfl⟩, fun _ _ h => h⟩

theorem Ext.trans {w w₁ w₂ : World} {B B₁ B₂ : Nat → Prop} {e e₁ e₂ : Env} {h h₁ h₂ : Hp} (x : Ext w B e h w₁ B₁ e₁ h₁) (y : Ext w₁ B₁ e₁ h₁ w₂ B₂ e₂ h₂) : Ext w B e h w₂ B₂ e₂ h₂ where
  size := Nat.le_trans x.size y.size
  os := y.os.trans x.os
  tape := y.tape.trans x.tape
  output := y.output.trans x.output
  bsub b hb := y.bsub b (x.bsub b hb)
  bnew b hb := by
    rcases y.bnew b hb with h1 | ⟨L, hL, hb'⟩ | h1
    · exact x.bnew b h1
    · rcases x.onew L hL with ⟨M, hM, hM'⟩ | h2
      · exact .inr (.inl ⟨M, hM, hM'.trans hb'⟩)
      · exact .inr (.inr (hb' ▸ h2))
    · exact .inr (.inr (Nat.le_trans x.size h1))
  keep b hb ho := by
    rw [y.keep b (Nat.lt_of_lt_of_le hb x.size) ?_, x.keep b hb ho]
    intro L hL hE
    rcases x.onew L hL with ⟨M, hM, hM'⟩ | h2
    · exact ho M hM (hM'.trans hE)
    · omega
  onew L hL := by
    rcases y.onew L hL with ⟨M, hM, hM'⟩ | h2
    · rcases x.onew M hM with ⟨M', h1, h1'⟩ | h2
      · exact .inl ⟨M', h1, h1'.trans hM'⟩
      · exact .inr (hM' ▸ h2)
    · exact .inr (Nat.le_trans x.size h2)
  cnt f s := Nat.le_trans (x.cnt f s) (y.cnt f s)
  env L hL := by
    have h1 := x.env L hL
    have h2 := y.env L (Nat.lt_of_lt_of_le hL (x.cnt _ _))
    exact ⟨h2.1.trans h1.1, h2.2.trans h1.2⟩
  live L hL hl := x.live L hL (y.live L (Nat.lt_of_lt_of_le hL (x.cnt _ _)) hl)

/-- A package variable that is only read holds what it held. -/
theorem ConRel.gl_move {w w' : World} {B B' : Nat → Prop} {e e' : Env} {h h' : Hp} {L : Lab} {cs : List AV} (hR : ∀ a v, R w B (e.E h) a v → R w' B' (e'.E h') a v) (hβ : e'.β L = e.β L)
    (hb : ∀ b, B b → w'.heap[b]? = w.heap[b]?) (hB : ∀ b, B b → B' b) (hc : ConRel w B e h L (.gl cs)) : ConRel w' B' e' h' L (.gl cs) := by
  obtain ⟨h1, h2, vs, T, f, h3, h4, h5⟩ := hc
  exact ⟨by rw [hβ]; exact hB _ h1, by rw [hβ]; exact h2, vs, T, f, by rw [hβ, hb _ h1]; exact h3, h4, fun j hj => hR _ _ (h5 j hj)⟩
theorem ConRel.gl_ext {w w' : World} {B B' : Nat → Prop} {e e' : Env} {h h' : Hp} (hh : HRel w B e h) (x : Ext w B e h w' B' e' h') {L : Lab} (hk : L.k < h.cnt L.f L.s) {cs : List AV}
    (hc : ConRel w B e h L (.gl cs)) : ConRel w' B' e' h' L (.gl cs) :=
  ConRel.gl_move (fun _ _ hR => hR.ext hh x) (x.env L hk).1 (fun b hb => x.keep b (hh.bnd b hb) (hh.notB hb)) x.bsub hc
theorem HRel.glbX {w w' : World} {B B' : Nat → Prop} {e e' : Env} {h h' : Hp} (hh : HRel w B e h) (x : Ext w B e h w' B' e' h') (i : Nat) : 0 < h'.cnt glF i ∧ e'.β (glL i) = ⟨i, 0, .none⟩ := by
  obtain ⟨h1, h2⟩ := hh.glb i
  exact ⟨Nat.lt_of_lt_of_le h1 (x.cnt _ _), by rw [(x.env (glL i) h1).1]; exact h2⟩

/-- A label whose block is aas it was holds what it held. -/
theorem ConRel.ext {w w' : World} {B B' : Nat → Prop} {e e' : Env} {h h' : Hp} (hh : HRel w B e h) (x : Ext w B e h w' B' e' h') {L : Lab} (hk : L.k < h.cnt L.f L.s) {c : Con}
    (hb : w'.heap[(e.β L).block]? = w.heap[(e.β L).block]?) (hB : ¬ B (e.β L).block → ¬ B' (e.β L).block) (hc : ConRel w B e h L c) : ConRel w' B' e' h' L c := by
  obtain ⟨e1, e2⟩ := x.env L hk
  cases c with
  | none => trivial
  | blk cs =>
    obtain ⟨h1, h2, vs, T, h3, h4, h5⟩ := hc
    refine ⟨by rw [e1]; exact hB h1, by rw [e1]; exact h2, vs, T, by rw [e1, hb]; exact h3, h4, fun j hj => (h5 j hj).ext hh x⟩
  | bt T cs =>
    obtain ⟨h1, h2, vs, h3, h4, h5⟩ := hc
    refine ⟨by rw [e1]; exact hB h1, by rw [e1]; exact h2, vs, by rw [e1, hb]; exact h3, h4, fun j hj => (h5 j hj).ext hh x⟩
  | gl cs => exact ConRel.gl_ext hh x hk hc
  | ba T bs =>
    obtain ⟨h1, cap, cur, h2, h3, h4⟩ := hc
    exact ⟨by rw [e1]; exact hB h1, cap, cur, by rw [e1, hb]; exact h2, by rw [e1, e2]; exact h3, h4⟩
  | arr sz xs =>
    obtain ⟨a, cap, h1, h2, h3, h4⟩ := hc
    refine ⟨a, cap, by rw [e2]; exact h1, h2, h3, ?_⟩
    rcases h4 with h0 | ⟨h5, h6, h7, vs, T, h8, h9, h10⟩
    · exact .inl h0
    · refine .inr ⟨by rw [e1]; exact h5, by rw [e1]; exact h6, by rw [e1]; exact hB h7, vs, T, by rw [e1, hb]; exact h8, by rw [e1]; exact h9, fun i j hi hj => ?_⟩
      rw [e1]
      exact ⟨(h10 i j hi hj).1.ext hh x, (h10 i j hi hj).2⟩
  | mp es ck =>
    obtain ⟨h1, ents, h3, h4, h5⟩ := hc
    refine ⟨by rw [e1]; exact hB h1, ents, by rw [e1, hb]; exact h3, h4, fun j hj => ?_⟩
    obtain ⟨h6, h7, h8⟩ := h5 j hj
    exact ⟨h6.ext hh x, h7.ext hh x, h8⟩
  | lp sl n ps asg bd st =>
    obtain ⟨h1, r, h3, h4, h5, h6, h7, h8, h9⟩ := hc
    exact ⟨by rw [e1]; exact hB h1, r, by rw [e1, hb]; exact h3, h4, h5, h6, h7, fun i => (h8 i).ext hh x, h9⟩

def Env.upd (e : Env) (L : Lab) (a : Addr) (v : Value) : Env := ⟨fun M => if M = L then a else e.β M, fun M => if M = L then v else e.η M⟩
def World.pushObj (w : World) (o : Obj) : World := { w with heap := w.heap.push o }

theorem fresh_ne {h : Hp} {f s : Nat} {L : Lab} (hk : L.k < h.cnt L.f L.s) : L ≠ h.fresh f s := by
  intro hE
  subst hE
  simp [Hp.fresh] at hk

theorem alloc_con_ne {h : Hp} {f s : Nat} {c : Con} {L : Lab} (hne : L ≠ h.fresh f s) : (h.alloc f s c).con L = h.con L := by
  exact if_neg hne
theorem alloc_con_eq {h : Hp} {f s : Nat} {c : Con} : (h.alloc f s c).con (h.fresh f s) = c := by
  simp [Hp.alloc, Hp.fresh]
theorem alloc_cnt_le {h : Hp} {f s : Nat} {c : Con} (g t : Nat) : h.cnt g t ≤ (h.alloc f s c).cnt g t := by
  simp only [Hp.alloc]
  split
  · rename_i hx; obtain ⟨rfl, rfl⟩ := hx; omega
  · exact Nat.le_refl _
theorem alloc_fresh_lt {h : Hp} {f s : Nat} {c : Con} : (h.fresh f s).k < (h.alloc f s c).cnt (h.fresh f s).f (h.fresh f s).s := by
  simp [Hp.alloc, Hp.fresh]
theorem alloc_lt {h : Hp} {f s : Nat} {c : Con} {L : Lab} (hk : L.k < (h.alloc f s c).cnt L.f L.s) : L = h.fresh f s ∨ L.k < h.cnt L.f L.s := by
  simp only [Hp.alloc] at hk
  split at hk
  · rename_i hx
    obtain ⟨h1, h2⟩ := hx
    obtain ⟨f', s', k'⟩ := L
    simp only at h1 h2 hk
    subst h1; subst h2
    by_cases hE : k' = h.cnt f' s'
    · left; simp [Hp.fresh, hE]
    · right; simp; omega
  · exact .inr hk

theorem has_alloc_ne {e : Env} {h : Hp} {f s : Nat} {c : Con} {a : Addr} {v : Value} {L : Lab} (hne : L ≠ h.fresh f s) (hL : (e.upd (h.fresh f s) a v).has (h.alloc f s c) L) : e.has h L := by
  obtain ⟨hk, hL⟩ := hL
  rcases alloc_lt hk with h1 | h1
  · exact absurd h1 hne
  · refine ⟨h1, ?_⟩
    rw [alloc_con_ne hne] at hL
    simp only [Env.upd, if_neg hne] at hL
    exact hL

/-- What a new block leaves aas it was. -/
theorem Ext.alloc {w : World} {B B' : Nat → Prop} {e : Env} {h : Hp} (f s : Nat) (c : Con) (o : Obj) (a : Addr) (v : Value) (w' : World)
    (hw : w'.heap = w.heap.push o) (h1 : w'.os = w.os) (h2 : w'.tape = w.tape) (h3 : w'.output = w.output)
    (hB : ∀ b, B b → B' b) (hB' : ∀ b, B' b → B b ∨ b = w.heap.size) (ha : a.block = w.heap.size) :
    Ext w B e h w' B' (e.upd (h.fresh f s) a v) (h.alloc f s c) where
  size := by rw [hw]; simp
  os := h1
  tape := h2
  output := h3
  bsub := hB
  bnew b hb := (hB' b hb).imp id (fun h => .inr (by omega))
  keep b hb _ := by rw [hw, Array.getElem?_push, if_neg (by omega)]
  onew L hL := by
    by_cases hE : L = h.fresh f s
    · right; subst hE; simp [Env.upd, ha]
    · left; exact ⟨L, has_alloc_ne hE hL, by simp [Env.upd, hE]⟩
  cnt := alloc_cnt_le
  env L hk := by have := fresh_ne (f := f) (s := s) hk; simp [Env.upd, this]
  live L hk hl := by rwa [alloc_con_ne (fresh_ne hk)] at hl

theorem HRel.alloc {w : World} {B B' : Nat → Prop} {e : Env} {h : Hp} (hh : HRel w B e h) (f s : Nat) (c : Con) (o : Obj) (a : Addr) (v : Value) (w' : World)
    (hw : w'.heap = w.heap.push o) (h1 : w'.os = w.os) (h2 : w'.tape = w.tape) (h3 : w'.output = w.output)
    (hB : ∀ b, B b → B' b) (hB' : ∀ b, B' b → B b ∨ b = w.heap.size) (ha : a.block = w.heap.size)
    (hc : ConRel w' B' (e.upd (h.fresh f s) a v) (h.alloc f s c) (h.fresh f s) c) :
    HRel w' B' (e.upd (h.fresh f s) a v) (h.alloc f s c) := by
  have x := Ext.alloc (e := e) (h := h) f s c o a v w' hw h1 h2 h3 hB hB' ha
  refine ⟨fun L hk => ?_, fun L L' hL hL' hb => ?_, fun b hb => ?_, hh.glbX x⟩
  · by_cases hE : L = h.fresh f s
    · subst hE; rw [alloc_con_eq]; exact hc
    · have hk' := (alloc_lt hk).resolve_left hE
      rw [alloc_con_ne hE]
      have hcon := hh.con L hk'
      by_cases hhas : e.has h L
      · obtain ⟨hl, hnb⟩ := hh.lt hhas
        refine ConRel.ext hh x hk' ?_ ?_ hcon
        · rw [hw, Array.getElem?_push, if_neg (by omega)]
        · intro _ hb; rcases hB' _ hb with h | h
          · exact hnb h
          · omega
      · have hcon' := hcon
        cases hcc : h.con L with
        | none => trivial
        | blk cs => exact absurd ⟨hk', by rw [hcc]; trivial⟩ hhas
        | mp es ck => exact absurd ⟨hk', by rw [hcc]; trivial⟩ hhas
        | bt T cs => exact absurd ⟨hk', by rw [hcc]; trivial⟩ hhas
        | ba T cs => exact absurd ⟨hk', by rw [hcc]; trivial⟩ hhas
        | gl cs => rw [hcc] at hcon; exact ConRel.gl_ext hh x hk' hcon
        | lp sl n ps asg bd st => exact absurd ⟨hk', by rw [hcc]; trivial⟩ hhas
        | arr sz xs =>
          rw [hcc] at hcon
          obtain ⟨a', cap, g1, g2, g3, g4⟩ := hcon
          refine ⟨a', cap, by rw [(x.env L hk').2]; exact g1, g2, g3, .inl ?_⟩
          apply Classical.byContradiction
          intro hne
          exact hhas ⟨hk', by rw [hcc]; exact ⟨_, _, _, g1, hne⟩⟩
  · by_cases hE : L = h.fresh f s
    · by_cases hE' : L' = h.fresh f s
      · rw [hE, hE']
      · have := (hh.lt (has_alloc_ne hE' hL')).1
        simp only [Env.upd, hE, if_true, if_neg hE', ha] at hb
        omega
    · by_cases hE' : L' = h.fresh f s
      · have := (hh.lt (has_alloc_ne hE hL)).1
        simp only [Env.upd, hE', if_true, if_neg hE, ha] at hb
        omega
      · simp only [Env.upd, if_neg hE, if_neg hE'] at hb
        exact hh.inj L L' (has_alloc_ne hE hL) (has_alloc_ne hE' hL') hb
  · rw [hw]
    rcases hB' b hb with h | h
    · have := hh.bnd b h; simp; omega
    · simp; omega

theorem set_con_ne {h : Hp} {L M : Lab} {c : Con} (hne : M ≠ L) : (h.set L c).con M = h.con M := if_neg hne
theorem set_con_eq {h : Hp} {L : Lab} {c : Con} (hl : (h.con L).live) : (h.set L c).con L = c := by
  simp only [Hp.set, if_true]
  cases hc : h.con L <;> rw [hc] at hl <;> first | exact hl.elim | rfl
theorem set_con_dead {h : Hp} {L : Lab} : (h.set L .none).con L = .none := by
  simp only [Hp.set, if_true, Con.keep]
  split <;> rfl

/-- A write into a label's own block; what it holds is of the same kind. -/
theorem Ext.write {w w' : World} {B : Nat → Prop} {e : Env} {h : Hp} {L : Lab} (hL : e.has h L) {c : Con} (hlive : (h.con L).live)
    (hs : w'.heap.size = w.heap.size) (h1 : w'.os = w.os) (h2 : w'.tape = w.tape) (h3 : w'.output = w.output)
    (hw : ∀ b, b ≠ (e.β L).block → w'.heap[b]? = w.heap[b]?) : Ext w B e h w' B e (h.set L c) where
  size := by omega
  os := h1
  tape := h2
  output := h3
  bsub _ h := h
  bnew _ h := .inl h
  keep b _ ho := hw b (fun hE => ho L hL hE.symm)
  onew M hM := by
    left
    by_cases hE : M = L
    · exact ⟨L, hL, by rw [hE]⟩
    · refine ⟨M, ⟨hM.1, ?_⟩, rfl⟩
      have := hM.2
      rwa [set_con_ne hE] at this
  cnt _ _ := Nat.le_refl _
  env _ _ := ⟨rfl, rfl⟩
  live M _ hl := by
    by_cases hE : M = L
    · rw [hE]; exact hlive
    · rwa [set_con_ne hE] at hl

theorem HRel.write {w w' : World} {B : Nat → Prop} {e : Env} {h : Hp} (hh : HRel w B e h) {L : Lab} (hL : e.has h L) {c : Con} (hlive : (h.con L).live)
    (hs : w'.heap.size = w.heap.size) (h1 : w'.os = w.os) (h2 : w'.tape = w.tape) (h3 : w'.output = w.output)
    (hw : ∀ b, b ≠ (e.β L).block → w'.heap[b]? = w.heap[b]?) (hhas : e.has (h.set L c) L) (hc : ConRel w' B e (h.set L c) L c) : HRel w' B e (h.set L c) := by
  have x := Ext.write (B := B) (c := c) hL hlive hs h1 h2 h3 hw
  have back : ∀ M, M ≠ L → e.has (h.set L c) M → e.has h M := fun M hE hM => ⟨hM.1, by have := hM.2; rwa [set_con_ne hE] at this⟩
  refine ⟨fun M hk => ?_, fun M M' hM hM' hb => ?_, fun b hb => by rw [hs]; exact hh.bnd b hb, hh.glbX x⟩
  · by_cases hE : M = L
    · subst hE; rw [set_con_eq hlive]; exact hc
    · rw [set_con_ne hE]
      have hcon := hh.con M hk
      by_cases hM : e.has h M
      · refine ConRel.ext hh x hk (hw _ fun hb => hE (hh.inj M L hM hL hb)) (fun h => h) hcon
      · cases hcc : h.con M with
        | none => trivial
        | blk cs => exact absurd ⟨hk, by rw [hcc]; trivial⟩ hM
        | mp es ck => exact absurd ⟨hk, by rw [hcc]; trivial⟩ hM
        | bt T cs => exact absurd ⟨hk, by rw [hcc]; trivial⟩ hM
        | ba T cs => exact absurd ⟨hk, by rw [hcc]; trivial⟩ hM
        | gl cs => rw [hcc] at hcon; exact ConRel.gl_ext hh x hk hcon
        | lp sl n ps asg bd st => exact absurd ⟨hk, by rw [hcc]; trivial⟩ hM
        | arr sz xs =>
          rw [hcc] at hcon
          obtain ⟨a', cap, g1, g2, g3, g4⟩ := hcon
          refine ⟨a', cap, g1, g2, g3, .inl ?_⟩
          apply Classical.byContradiction
          intro hne
          exact hM ⟨hk, by rw [hcc]; exact ⟨_, _, _, g1, hne⟩⟩
  · by_cases hE : M = L
    · by_cases hE' : M' = L
      · rw [hE, hE']
      · subst hE; exact hh.inj _ _ hL (back _ hE' hM') hb
    · by_cases hE' : M' = L
      · subst hE'; exact hh.inj _ _ (back _ hE hM) hL hb
      · exact hh.inj _ _ (back _ hE hM) (back _ hE' hM') hb

/-- Letting labels go: nothing turns in memory. -/
theorem Ext.drop {w : World} {B : Nat → Prop} {e : Env} {h h' : Hp} (hc : ∀ L, h'.con L = .none ∨ h'.con L = h.con L) (hn : h'.cnt = h.cnt) : Ext w B e h w B e h' where
  size := Nat.le_refl _
  os := rfl
  tape := rfl
  output := rfl
  bsub _ h := h
  bnew _ h := .inl h
  keep _ _ _ := rfl
  onew L hL := by
    left
    refine ⟨L, ⟨by have := hL.1; rwa [hn] at this, ?_⟩, rfl⟩
    have h2 := hL.2
    rcases hc L with h1 | h1
    · simp only [h1] at h2
    · simpa only [h1] using h2
  cnt _ _ := by rw [hn]; exact Nat.le_refl _
  env _ _ := ⟨rfl, rfl⟩
  live L _ hl := by
    rcases hc L with h1 | h1
    · simp only [h1] at hl; exact hl.elim
    · simpa only [h1] using hl

theorem HRel.drop {w : World} {B : Nat → Prop} {e : Env} {h h' : Hp} (hh : HRel w B e h) (hc : ∀ L, h'.con L = .none ∨ h'.con L = h.con L) (hn : h'.cnt = h.cnt) : HRel w B e h' := by
  have x := Ext.drop (w := w) (B := B) (e := e) hc hn
  have back : ∀ M, e.has h' M → e.has h M := fun M hM => by
    refine ⟨by have := hM.1; rwa [hn] at this, ?_⟩
    have h2 := hM.2
    rcases hc M with h1 | h1
    · simp only [h1] at h2
    · simpa only [h1] using h2
  refine ⟨fun L hk => ?_, fun M M' hM hM' hb => hh.inj _ _ (back _ hM) (back _ hM') hb, hh.bnd, hh.glbX x⟩
  rw [hn] at hk
  rcases hc L with h1 | h1
  · rw [h1]; trivial
  · rw [h1]; exact ConRel.ext hh x hk rfl (fun h => h) (hh.con L hk)

end Go.T
/- Soundness, third part: stores, new variables. -/
namespace Go.T
open Go

theorem setRange_length : ∀ (vs cs : List AV) (j : Nat), (setRange cs j vs).length = cs.length := by
  intro vs
  induction vs with
  | nil => intro cs j; rfl
  | cons v vs ih => intro cs j; simp [setRange, ih]

theorem setRange_getD : ∀ (vs cs : List AV) (j k : Nat), j + vs.length ≤ cs.length →
    (setRange cs j vs).getD k .undef = if j ≤ k ∧ k < j + vs.length then vs.getD (k - j) .undef else cs.getD k .undef := by
  intro vs
  induction vs with
  | nil => intro cs j k h; simp only [setRange, List.length_nil, Nat.add_zero]; rw [if_neg (by omega)]
  | cons v vs ih =>
    intro cs j k h
    simp only [List.length_cons] at h
    simp only [setRange]
    rw [ih (cs.set j v) (j + 1) k (by simp; omega)]
    by_cases h1 : j + 1 ≤ k ∧ k < j + 1 + vs.length
    · rw [if_pos h1, if_pos (by simp; omega)]
      have : k - j = (k - (j + 1)) + 1 := by omega
      rw [this, List.getD_cons_succ]
    · rw [if_neg h1]
      by_cases h2 : k = j
      · subst h2
        rw [if_pos (by simp)]
        simp [show k < cs.length by omega]
      · rw [if_neg (by simp; omega)]
        simp [Ne.symm h2]

/-- The machine's row with values written in from a place on. -/
def rowSet (vs : Array Value) (k : Nat) : List Value → Array Value
  | [] => vs
  | x :: xs => rowSet (vs.setIfInBounds k x) (k + 1) xs

theorem rowSet_size : ∀ (xs : List Value) (vs : Array Value) (k : Nat), (rowSet vs k xs).size = vs.size := by
  intro xs
  induction xs with
  | nil => intro vs k; rfl
  | cons v vs ih => intro cs j; simp [rowSet, ih]

theorem rowSet_getD : ∀ (xs : List Value) (vs : Array Value) (k i : Nat), k + xs.length ≤ vs.size →
    (rowSet vs k xs).getD i undef = if k ≤ i ∧ i < k + xs.length then xs.getD (i - k) undef else vs.getD i undef := by
  intro xs
  induction xs with
  | nil => intro vs k i h; simp only [rowSet, List.length_nil, Nat.add_zero]; rw [if_neg (by omega)]
  | cons x xs ih =>
    intro vs k i h
    simp only [List.length_cons] at h
    simp only [rowSet]
    rw [ih (vs.setIfInBounds k x) (k + 1) i (by simp; omega)]
    by_cases h1 : k + 1 ≤ i ∧ i < k + 1 + xs.length
    · rw [if_pos h1, if_pos (by simp; omega)]
      have : i - k = (i - (k + 1)) + 1 := by omega
      rw [this, List.getD_cons_succ]
    · rw [if_neg h1]
      by_cases h2 : i = k
      · subst h2
        rw [if_pos (by simp)]
        simp [show i < vs.size by omega]
      · rw [if_neg (by simp; omega)]
        simp [Ne.symm h2]

def World.row (w : World) (b : Nat) (vs : Array Value) (T : TypeId) : World := { w with heap := w.heap.setIfInBounds b (.cells vs T (0, 0)) }

theorem World.row_self (w : World) (b : Nat) (vs : Array Value) (T : TypeId) (hb : w.heap[b]? = some (.cells vs T (0, 0))) : World.row w b vs T = w := by
  have : w.heap.setIfInBounds b (.cells vs T (0, 0)) = w.heap := by
    apply Array.ext_getElem?
    intro i
    rw [Array.getElem?_setIfInBounds]
    split
    · rename_i h; subst h; split <;> simp_all
    · rfl
  unfold World.row
  rw [this]

theorem World.row_heap (w : World) (b : Nat) (vs : Array Value) (T : TypeId) (hb : b < w.heap.size) : (World.row w b vs T).heap[b]? = some (.cells vs T (0, 0)) := by
  simp [World.row, hb]
theorem World.row_other (w : World) (b k : Nat) (vs : Array Value) (T : TypeId) (hk : k ≠ b) : (World.row w b vs T).heap[k]? = w.heap[k]? := by
  simp [World.row, Ne.symm hk]

theorem setCell_row (w : World) (b k : Nat) (vs : Array Value) (T : TypeId) (v : Value) (hb : w.heap[b]? = some (.cells vs T (0, 0))) :
    w.setCell ⟨b, k, none⟩ v = World.row w b (vs.setIfInBounds k v) T := by
  unfold World.setCell World.row
  congr 1
  apply Array.ext_getElem?
  intro i
  rw [Array.getElem?_modify, Array.getElem?_setIfInBounds]
  by_cases h : b = i
  · subst h
    have hlt : b < w.heap.size := by
      rcases Nat.lt_or_ge b w.heap.size with h | h
      · exact h
      · simp [Array.getElem?_eq_none h] at hb
    rw [if_pos rfl, if_pos rfl, if_pos hlt, hb]
    simp
  · rw [if_neg h, if_neg h]

/-- Cells stored one behind the other into a row of the call's own. -/
theorem run_storeCells {P : Program} : ∀ (xs : List Value) (w : World) (b off i : Nat) (vs : Array Value) (T : TypeId), w.heap[b]? = some (.cells vs T (0, 0)) →
    (∀ x ∈ xs, x.oneCell' = true) → off + i + xs.length ≤ vs.size →
    (storeCells ⟨b, off, none⟩ xs i).run P w = .ok () (World.row w b (rowSet vs (off + i) xs) T) := by
  intro xs
  induction xs with
  | nil => intro w b off i vs T hb _ _; simp [storeCells, rowSet, World.row_self w b vs T hb]
  | cons x xs ih =>
    intro w b off i vs T hb hx hle
    simp only [List.length_cons] at hle
    have hlt : b < w.heap.size := by
      rcases Nat.lt_or_ge b w.heap.size with h | h
      · exact h
      · simp [Array.getElem?_eq_none h] at hb
    simp only [storeCells, Sem.run_bind]
    rw [run_store P w _ x .plain (hx x (by simp)), addr_add, getD_row hb (by omega), frozen_of_row w b (off + i) vs T hb, setCell_row w b (off + i) vs T x hb]
    simp only [Bool.false_eq_true, if_false, Result.andThen_ok]
    rw [ih (World.row w b (vs.setIfInBounds (off + i) x) T) b off (i + 1) (vs.setIfInBounds (off + i) x) T (World.row_heap w b _ T hlt) (fun y hy => hx y (by simp [hy])) (by simp; omega)]
    simp only [rowSet, World.row]
    simp [Nat.add_assoc]

theorem R_oneCell {w : World} {B : Nat → Prop} {e : Env} {h : Hp} {a : AV} {v : Value} (ha : a.isCell = true) (hR : R w B (e.E h) a v) : v.oneCell' = true := by
  cases hR with
  | ref _ _ hE =>
    cases a with
    | pt L sz i j => obtain ⟨_, ⟨a, rfl⟩, _⟩ := hE; rfl
    | os L => obtain ⟨_, ⟨a, n, c, rfl⟩, _⟩ := hE; rfl
    | sl L sz a n => obtain ⟨_, ⟨a, n, c, rfl⟩, _⟩ := hE; rfl
    | mr L => obtain ⟨_, ⟨a, rfl⟩, _⟩ := hE; rfl
    | yl L => obtain ⟨_, rfl⟩ := hE; rfl
    | _ => exact hE.elim
  | undef v => simp [AV.isCell] at ha
  | un => simp [AV.isCell] at ha
  | agg cs vs => simp [AV.isCell] at ha
  | tup cs vs => simp [AV.isCell] at ha
  | _ => rfl

/-- The cells of a value, one by one. -/
theorem R_cells {w : World} {B : Nat → Prop} {e : Env} {h : Hp} {a : AV} {v : Value} (hR : R w B (e.E h) a v) (ha : a.cells.all AV.isCell = true) :
    v.cells.size = a.cells.length ∧ (∀ x ∈ v.cells.toList, x.oneCell' = true) ∧ ∀ j, j < a.cells.length → R w B (e.E h) (a.cells.getD j .undef) (v.cells.getD j undef) := by
  by_cases hag : ∃ cs, a = .agg cs
  · obtain ⟨cs, rfl⟩ := hag
    cases hR with
    | ref _ _ hE => exact hE.elim
    | agg _ vs h1 h2 =>
      refine ⟨h1, ?_, h2⟩
      intro x hx
      obtain ⟨j, hj, rfl⟩ := List.getElem_of_mem hx
      have hj' : j < cs.length := by simp [Value.cells] at hj; omega
      have := h2 j hj'
      have hc : (cs.getD j AV.undef).isCell = true := by
        have := List.all_eq_true.1 ha (cs[j]) (by simp [AV.cells])
        simpa [hj'] using this
      have := R_oneCell hc this
      simpa [Value.cells, show j < vs.size by omega] using this
  · have hc : a.cells = [a] := by
      cases a <;> first | rfl | exact absurd ⟨_, rfl⟩ hag
    rw [hc] at ha
    have ha' : a.isCell = true := by simpa using ha
    have h1 := R_oneCell ha' hR
    have hv : v.cells = #[v] := by
      cases v <;> first | rfl | simp [Value.oneCell'] at h1
    rw [hc, hv]
    refine ⟨rfl, ?_, ?_⟩
    · intro x hx; simp at hx; subst hx; exact h1
    · intro j hj
      have : j = 0 := by simpa using hj
      subst this
      simpa using hR

theorem over_cells (x : AV) (j : Nat) (vs : List AV) (h : j + vs.length ≤ x.cells.length) (hv : vs.all AV.isCell = true) : (x.over j vs).cells = setRange x.cells j vs := by
  by_cases hag : ∃ cs, x = .agg cs
  · obtain ⟨cs, rfl⟩ := hag; rfl
  · have hc : x.cells = [x] := by
      cases x <;> first | rfl | exact absurd ⟨_, rfl⟩ hag
    have ho : x.over j vs = (setRange [x] j vs).getD 0 .undef := by
      cases x <;> first | rfl | exact absurd ⟨_, rfl⟩ hag
    rw [hc] at h ⊢
    simp only [List.length_singleton] at h
    rw [ho]
    cases vs with
    | nil => simpa [setRange] using hc
    | cons v vs =>
      have h1 : j = 0 ∧ vs = [] := by
        simp only [List.length_cons] at h
        exact ⟨by omega, List.eq_nil_of_length_eq_zero (by omega)⟩
      obtain ⟨rfl, rfl⟩ := h1
      simp [setRange]
      simp at hv
      cases v <;> first | rfl | simp [AV.isCell] at hv

theorem storeK_sound {P : Program} {w : World} {B : Nat → Prop} {e : Env} {h : Hp} (hh : HRel w B e h) {t : TypeId} (ht : tin P t = true) {a av : AV} {v x : Value}
    (hv : R w B (e.E h) a v) (hx : R w B (e.E h) av x) {K : Hp → Prop} (hK : storeK h (tsz P t) a av K) :
    ∃ w' h', (Instr.storeAt t v x).run P w = .ok () w' ∧ HRel w' B e h' ∧ Ext w B e h w' B e h' ∧ K h' := by
  obtain ⟨hn, hcell, hK⟩ := hK
  obtain ⟨hx1, hx2, hx3⟩ := R_cells hx hcell
  have main : ∀ (b off : Nat) (vs : Array Value) (T : TypeId), w.heap[b]? = some (.cells vs T (0, 0)) → off + tsz P t ≤ vs.size →
      (Instr.storeAt t (.pointer (some ⟨b, off, none⟩)) x).run P w = .ok () (World.row w b (rowSet vs off x.cells.toList) T) := by
    intro b off vs T hb hle
    simp only [Instr.storeAt, Instr.sureAddr, Sem.run_bind, Sem.run_pure, Result.andThen_ok, storeVar, run_sizeOf w ht]
    rw [if_neg (by omega)]
    have := run_storeCells (P := P) x.cells.toList w b off 0 vs T hb hx2 (by simp [hx1]; omega)
    simpa using this
  unfold storeP at hK
  split at hK
  · rename_i L sz i j
    unfold storeC at hK
    split at hK
    · rename_i cs hcon
      obtain ⟨rfl, h1, hK⟩ := hK
      obtain ⟨hk, rfl⟩ := E_pt (R_pt hv) (by rw [hcon]; trivial)
      have hc := hh.con L hk
      rw [hcon] at hc
      obtain ⟨hnb, hoff, vs, T, hb, hs, hr⟩ := hc
      have hlt : (e.β L).block < w.heap.size := by
        rcases Nat.lt_or_ge (e.β L).block w.heap.size with h | h
        · exact h
        · simp [Array.getElem?_eq_none h] at hb
      have hL : e.has h L := ⟨hk, by rw [hcon]; trivial⟩
      have hlive : (h.con L).live := by rw [hcon]; trivial
      have hm := main (e.β L).block j vs T hb (by omega)
      have e0 : (e.β L).off + (0 * sz + j) = j := by rw [hoff]; omega
      rw [e0]
      let w' := World.row w (e.β L).block (rowSet vs j x.cells.toList) T
      have hs' : w'.heap.size = w.heap.size := by simp [w', World.row]
      have hw : ∀ b, b ≠ (e.β L).block → w'.heap[b]? = w.heap[b]? := fun b hb => World.row_other w _ b _ T hb
      have xt : Ext w B e h w' B e (h.set L (.blk (setRange cs j av.cells))) := Ext.write hL hlive hs' rfl rfl rfl hw
      refine ⟨w', _, hm, HRel.write hh hL hlive hs' rfl rfl rfl hw ⟨hk, by rw [set_con_eq hlive]; trivial⟩ ?_, xt, hK⟩
      refine ⟨hnb, hoff, _, T, World.row_heap w _ _ T hlt, by rw [rowSet_size, setRange_length]; exact hs, fun k hk' => ?_⟩
      rw [setRange_length] at hk'
      rw [setRange_getD av.cells cs j k (by omega), rowSet_getD _ vs j k (by simp [hx1]; omega)]
      simp only [Array.length_toList, hx1]
      by_cases hc : j ≤ k ∧ k < j + av.cells.length
      · rw [if_pos hc, if_pos hc]
        have := (hx3 (k - j) (by omega)).ext hh xt
        simpa using this
      · rw [if_neg hc, if_neg hc]
        exact (hr k hk').ext hh xt
    · rename_i T cs hcon
      obtain ⟨rfl, h1, hnl, hK⟩ := hK
      obtain ⟨hk, rfl⟩ := E_pt (R_pt hv) (by rw [hcon]; trivial)
      have hc := hh.con L hk
      rw [hcon] at hc
      obtain ⟨hnb, hoff, vs, hb, ⟨hs, hno⟩, hr⟩ := hc
      have hlt : (e.β L).block < w.heap.size := by
        rcases Nat.lt_or_ge (e.β L).block w.heap.size with h | h
        · exact h
        · simp [Array.getElem?_eq_none h] at hb
      have hL : e.has h L := ⟨hk, by rw [hcon]; trivial⟩
      have hlive : (h.con L).live := by rw [hcon]; trivial
      have hm := main (e.β L).block j vs T hb (by omega)
      have e0 : (e.β L).off + (0 * sz + j) = j := by rw [hoff]; omega
      rw [e0]
      let w' := World.row w (e.β L).block (rowSet vs j x.cells.toList) T
      have hs' : w'.heap.size = w.heap.size := by simp [w', World.row]
      have hw : ∀ b, b ≠ (e.β L).block → w'.heap[b]? = w.heap[b]? := fun b hb => World.row_other w _ b _ T hb
      have xt : Ext w B e h w' B e (h.set L (.bt T (setRange cs j av.cells))) := Ext.write hL hlive hs' rfl rfl rfl hw
      refine ⟨w', _, hm, HRel.write hh hL hlive hs' rfl rfl rfl hw ⟨hk, by rw [set_con_eq hlive]; trivial⟩ ?_, xt, hK⟩
      refine ⟨hnb, hoff, _, World.row_heap w _ _ T hlt, ⟨by rw [rowSet_size, setRange_length]; exact hs, fun k hk' he => ?_⟩, fun k hk' => ?_⟩
      · rw [setRange_length] at hk'
        rw [setRange_getD av.cells cs j k (by omega)] at he
        rw [rowSet_getD _ vs j k (by simp [hx1]; omega)]
        simp only [Array.length_toList, hx1]
        by_cases hc : j ≤ k ∧ k < j + av.cells.length
        · rw [if_pos hc] at he
          have hm := List.all_eq_true.1 hnl _ (List.getElem_mem (l := av.cells) (n := k - j) (by omega))
          rw [List.getD_eq_getElem?_getD, List.getElem?_eq_getElem (by omega), Option.getD_some] at he
          rw [he] at hm
          cases hm
        · rw [if_neg hc] at he
          rw [if_neg hc]
          exact hno k hk' he
      rw [setRange_length] at hk'
      rw [setRange_getD av.cells cs j k (by omega), rowSet_getD _ vs j k (by simp [hx1]; omega)]
      simp only [Array.length_toList, hx1]
      by_cases hc : j ≤ k ∧ k < j + av.cells.length
      · rw [if_pos hc, if_pos hc]
        have := (hx3 (k - j) (by omega)).ext hh xt
        simpa using this
      · rw [if_neg hc, if_neg hc]
        exact (hr k hk').ext hh xt
    · rename_i sz' xs hcon
      obtain ⟨rfl, hi, h1, hK⟩ := hK
      obtain ⟨hk, rfl⟩ := E_pt (R_pt hv) (by rw [hcon]; trivial)
      have hc := hh.con L hk
      rw [hcon] at hc
      obtain ⟨a', cap, hη, hcap, hsz, hcase⟩ := hc
      rcases hcase with h0' | ⟨ha', hspot, hnb, vs, T, hb, hs, hr⟩
      · omega
      have hlt : (e.β L).block < w.heap.size := by
        rcases Nat.lt_or_ge (e.β L).block w.heap.size with h | h
        · exact h
        · simp [Array.getElem?_eq_none h] at hb
      have hL : e.has h L := ⟨hk, by rw [hcon]; exact ⟨_, _, _, hη, by omega⟩⟩
      have hlive : (h.con L).live := by rw [hcon]; trivial
      have hmul : (i + 1) * sz' ≤ cap * sz' := Nat.mul_le_mul_right _ (by omega)
      rw [Nat.add_mul] at hmul
      have hm := main (e.β L).block ((e.β L).off + (i * sz' + j)) vs T hb (by omega)
      let w' := World.row w (e.β L).block (rowSet vs ((e.β L).off + (i * sz' + j)) x.cells.toList) T
      have hs' : w'.heap.size = w.heap.size := by simp [w', World.row]
      have hw : ∀ b, b ≠ (e.β L).block → w'.heap[b]? = w.heap[b]? := fun b hb => World.row_other w _ b _ T hb
      have xt : Ext w B e h w' B e (h.set L (.arr sz' (xs.set i ((xs[i]).over j av.cells)))) := Ext.write hL hlive hs' rfl rfl rfl hw
      have hov := over_cells (xs[i]) j av.cells (by rw [hsz i hi]; omega) hcell
      refine ⟨w', _, hm, HRel.write hh hL hlive hs' rfl rfl rfl hw ⟨hk, by rw [set_con_eq hlive]; exact ⟨_, _, _, hη, by omega⟩⟩ ?_, xt, hK⟩
      refine ⟨a', cap, by rw [List.length_set]; exact hη, by rw [List.length_set]; exact hcap, ?_, .inr ⟨ha', hspot, hnb, _, T, World.row_heap w _ _ T hlt, by rw [rowSet_size]; exact hs, ?_⟩⟩
      · intro q hq
        rw [List.length_set] at hq
        by_cases hqi : i = q
        · subst hqi
          rw [List.getElem_set_self, hov, setRange_length]
          exact hsz i hi
        · rw [List.getElem_set_ne hqi]
          exact hsz q hq
      · intro q k hq hk'
        rw [List.length_set] at hq
        have hmq : (q + 1) * sz' ≤ cap * sz' := Nat.mul_le_mul_right _ (by omega)
        rw [Nat.add_mul] at hmq
        rw [rowSet_getD _ vs _ _ (by simp [hx1]; omega)]
        simp only [Array.length_toList, hx1]
        by_cases hqi : i = q
        · subst hqi
          rw [List.getElem_set_self, hov, setRange_getD av.cells _ j k (by rw [hsz i hi]; omega)]
          by_cases hc : j ≤ k ∧ k < j + av.cells.length
          · rw [if_pos hc, if_pos (by omega)]
            have := (hx3 (k - j) (by omega)).ext hh xt
            have e1 : (e.β L).off + (i * sz' + k) - ((e.β L).off + (i * sz' + j)) = k - j := by omega
            rw [e1]
            refine ⟨by simpa using this, ?_⟩
            have hm' : x.cells.toList.getD (k - j) undef ∈ x.cells.toList := by
              have hlt : k - j < x.cells.toList.length := by rw [Array.length_toList]; omega
              simp only [List.getD_eq_getElem?_getD, List.getElem?_eq_getElem hlt, Option.getD_some]
              exact List.getElem_mem hlt
            exact hx2 _ hm'
          · rw [if_neg hc, if_neg (by omega)]
            exact ⟨(hr i k hi hk').1.ext hh xt, (hr i k hi hk').2⟩
        · rw [List.getElem_set_ne hqi, if_neg ?_]
          · exact ⟨(hr q k hq hk').1.ext hh xt, (hr q k hq hk').2⟩
          · rintro ⟨g1, g2⟩
            rcases Nat.lt_or_gt_of_ne hqi with hlt' | hgt'
            · have : (i + 1) * sz' ≤ q * sz' := Nat.mul_le_mul_right _ (by omega)
              rw [Nat.add_mul] at this
              omega
            · have : (q + 1) * sz' ≤ i * sz' := Nat.mul_le_mul_right _ (by omega)
              rw [Nat.add_mul] at this
              omega
    · exact hK.elim
  · exact hK.elim

end Go.T
/- Soundness, fourth part: places, parts, tests. -/
namespace Go.T
open Go

theorem fof_parts {P : Program} {s : TypeId} {f off n : Nat} {t : TypeId} (h : fof P s f = some (off, n, t)) :
    ∃ fs fld, P.underlying s = some (.struct fs) ∧ fs[f]? = some fld ∧ fld.offset = off ∧ fld.type = t ∧ tsz P t = n ∧ n ≠ 0 ∧ tin P t = true := by
  unfold fof at h
  split at h
  · rename_i fs hu
    split at h
    · rename_i fld hf
      split at h
      · cases h
      · rename_i hz
        split at h
        · rename_i ht
          injection h with h
          injection h with h1 h2
          injection h2 with h2 h3
          subst h1; subst h2; subst h3
          exact ⟨fs, fld, hu, hf, rfl, rfl, rfl, hz, ht⟩
        · cases h
    · cases h
  · cases h

theorem fieldAddr_sound {P : Program} {w : World} {B : Nat → Prop} {e : Env} {h : Hp} {s : TypeId} {f off n : Nat} {t : TypeId} (hf : fof P s f = some (off, n, t))
    {a : AV} {v : Value} (hv : R w B (e.E h) a v) {K : AV → Prop} (hK : fieldAddrK off a K) :
    ∃ x av, (Instr.fieldAt s v f).run P w = .ok x w ∧ R w B (e.E h) av x ∧ K av := by
  obtain ⟨fs, fld, hu, hfl, rfl, rfl, hn, hz, ht⟩ := fof_parts hf
  have hrun : ∀ b o, (Instr.fieldAt s (.pointer (some ⟨b, o, none⟩)) f).run P w = .ok (.pointer (some ⟨b, o + fld.offset, none⟩)) w := by
    intro b o
    simp only [Instr.fieldAt, Sem.run_bind, run_underlying hu w, Result.andThen_ok, hfl, Instr.sureAddr, Sem.run_pure, fieldPlace, run_sizeOf w ht]
    rw [if_neg (by omega)]
    simp [addr_add]
  unfold fieldAddrK at hK
  split at hK
  · rename_i cs
    obtain ⟨b, o, vs, rfl, hb, hc, hr⟩ := R_ip hv
    refine ⟨.pointer (some ⟨b, o + fld.offset, none⟩), .ip (cs.drop fld.offset), hrun b o, ?_, hK⟩
    refine .ip _ b (o + fld.offset) (fun j => vs (fld.offset + j)) hb (fun j hj => ?_) (fun j hj => ?_)
    · rw [List.length_drop] at hj
      rw [Nat.add_assoc]; exact hc _ (by omega)
    · rw [List.length_drop] at hj
      have := hr (fld.offset + j) (by omega)
      simpa [List.getElem?_drop] using this
  · rename_i L sz i j
    obtain ⟨h1, ⟨a, rfl⟩, h3⟩ := R_pt hv
    refine ⟨.pointer (some (a.add fld.offset)), .pt L sz i (j + fld.offset), ?_, .ref _ _ ⟨h1, ⟨_, rfl⟩, fun hl => ?_⟩, hK⟩
    · simp only [Instr.fieldAt, Sem.run_bind, run_underlying hu w, Result.andThen_ok, hfl, Instr.sureAddr, Sem.run_pure, fieldPlace, run_sizeOf w ht]
      rw [if_neg (by omega)]
      simp
    · have := h3 hl
      injection this with this
      injection this with this
      rw [this, addr_add]
      simp [Nat.add_assoc]
  · exact hK.elim

theorem R_int {w : World} {B : Nat → Prop} {e : Env} {h : Hp} {k : IntKind} {n : Int} {v : Value} (hR : R w B (e.E h) (.int k n) v) : v = .int k n := by
  cases hR with
  | int => rfl
  | ref _ _ hE => exact hE.elim
theorem R_bool {w : World} {B : Nat → Prop} {e : Env} {h : Hp} {b : Bool} {v : Value} (hR : R w B (e.E h) (.bool b) v) : v = .bool b := by
  cases hR with
  | bool => rfl
  | ref _ _ hE => exact hE.elim
theorem R_str {w : World} {B : Nat → Prop} {e : Env} {h : Hp} {s : ByteArray} {v : Value} (hR : R w B (e.E h) (.str s) v) : v = .string s := by
  cases hR with
  | str => rfl
  | ref _ _ hE => exact hE.elim
theorem R_un {w : World} {B : Nat → Prop} {e : Env} {h : Hp} {v : Value} (hR : R w B (e.E h) .un v) : v = undef := by
  cases hR with
  | un => rfl
  | ref _ _ hE => exact hE.elim
theorem R_nilp {w : World} {B : Nat → Prop} {e : Env} {h : Hp} {v : Value} (hR : R w B (e.E h) .nilp v) : v = .pointer none := by
  cases hR with
  | nilp => rfl
  | ref _ _ hE => exact hE.elim
theorem R_nilf {w : World} {B : Nat → Prop} {e : Env} {h : Hp} {v : Value} (hR : R w B (e.E h) .nilf v) : v = .nilFunc := by
  cases hR with
  | nilf => rfl
  | ref _ _ hE => exact hE.elim
theorem R_agg {w : World} {B : Nat → Prop} {e : Env} {h : Hp} {cs : List AV} {v : Value} (hR : R w B (e.E h) (.agg cs) v) :
    ∃ vs, v = .agg vs ∧ vs.size = cs.length ∧ ∀ j, j < cs.length → R w B (e.E h) (cs.getD j .undef) (vs.getD j undef) := by
  cases hR with
  | agg _ vs h1 h2 => exact ⟨vs, rfl, h1, h2⟩
  | ref _ _ hE => exact hE.elim
theorem R_tup {w : World} {B : Nat → Prop} {e : Env} {h : Hp} {cs : List AV} {v : Value} (hR : R w B (e.E h) (.tup cs) v) :
    ∃ vs, v = .tuple vs ∧ vs.size = cs.length ∧ ∀ j, j < cs.length → R w B (e.E h) (cs.getD j .undef) (vs.getD j undef) := by
  cases hR with
  | tup _ vs h1 h2 => exact ⟨vs, rfl, h1, h2⟩
  | ref _ _ hE => exact hE.elim
theorem R_fn {w : World} {B : Nat → Prop} {e : Env} {h : Hp} {f : Fn} {cs : List AV} {v : Value} (hR : R w B (e.E h) (.fn f cs) v) :
    ∃ vs, v = .func f #[] vs ∧ vs.size = cs.length ∧ ∀ j, j < cs.length → R w B (e.E h) (cs.getD j .undef) (vs.getD j undef) := by
  cases hR with
  | fn _ _ vs h1 h2 => exact ⟨vs, rfl, h1, h2⟩
  | ref _ _ hE => exact hE.elim
/-- A slice by value: where it lies. -/
theorem R_l {w : World} {B : Nat → Prop} {e : Env} {h : Hp} {ex : Bool} {sz : Nat} {xs : List AV} {v : Value} (hR : R w B (e.E h) (.l ex sz xs) v) :
    ∃ a cap, v = .slice a xs.length cap ∧ (ex = true → cap = xs.length) ∧ xs.length ≤ cap ∧ (xs ≠ [] → ∃ (b off : Nat) (vs : Nat → Nat → Value), a = some ⟨b, off, none⟩ ∧ B b ∧
      (∀ i, (h : i < xs.length) → (xs[i]).cells.length = sz) ∧
      (∀ i j, i < xs.length → j < sz → w.cell? ⟨b, off + (i * sz + j), .none⟩ = some (vs i j)) ∧
      (∀ i j, (h' : i < xs.length) → j < sz → R w B (e.E h) ((xs[i]).cells.getD j .undef) (vs i j)) ∧ (∀ i j, i < xs.length → j < sz → (vs i j).oneCell' = true)) := by
  cases hR with
  | l0 _ _ a c hx => exact ⟨a, c, rfl, fun h => by simpa using hx h, Nat.zero_le _, fun h => absurd rfl h⟩
  | l _ _ _ b off cap vs h1 h2 h3 h4 h5 h6 h7 h8 => exact ⟨_, cap, rfl, h2, h3, fun _ => ⟨b, off, vs, rfl, h4, h5, h6, h7, h8⟩⟩
  | ref _ _ hE => exact hE.elim

theorem tk_array {P : Program} {t e : TypeId} {n : Nat} (h : tk P t = .array n e) : P.underlying t = some (.array n e) := by
  unfold tk at h
  split at h <;> first | (cases h; done) | skip
  rename_i hu; injection h with h1 h2; subst h1; subst h2; exact hu
theorem tk_slice {P : Program} {t e : TypeId} (h : tk P t = .slice e) : P.underlying t = some (.slice e) := by
  unfold tk at h
  split at h <;> first | (cases h; done) | skip
  rename_i hu; injection h with h1; subst h1; exact hu
theorem tk_int {P : Program} {t : TypeId} {k : IntKind} (h : tk P t = .int k) : P.underlying t = some (.int k) := by
  unfold tk at h
  split at h <;> first | (cases h; done) | skip
  rename_i hu; injection h with h1; subst h1; exact hu
theorem tk_string {P : Program} {t : TypeId} (h : tk P t = .string) : P.underlying t = some .string := by
  unfold tk at h
  split at h <;> first | (cases h; done) | skip
  rename_i hu; exact hu
theorem tk_bool {P : Program} {t : TypeId} (h : tk P t = .bool) : P.underlying t = some .bool := by
  unfold tk at h
  split at h <;> first | (cases h; done) | skip
  rename_i hu; exact hu
theorem tk_struct {P : Program} {t : TypeId} (h : tk P t = .struct) : ∃ fs, P.underlying t = some (.struct fs) := by
  unfold tk at h
  split at h <;> first | (cases h; done) | skip
  rename_i fs hu; exact ⟨fs, hu⟩
theorem tk_map {P : Program} {t k e : TypeId} (h : tk P t = .map k e) : P.underlying t = some (.map k e) := by
  unfold tk at h
  split at h <;> first | (cases h; done) | skip
  rename_i hu; injection h with h1 h2; subst h1; subst h2; exact hu

/-- The place of an array's element. -/
theorem indexArr_sound {P : Program} {w : World} {B : Nat → Prop} {e : Env} {h : Hp} {t el : TypeId} {n : Nat} (ht : tk P t = .array n el) (hel : tin P el = true)
    {a ix : AV} {v iv : Value} (hv : R w B (e.E h) a v) (hi : R w B (e.E h) ix iv) {K : AV → Prop} (hK : indexAddrK h (some n) (tsz P el) a ix K) :
    ∃ x av, (Instr.indexAt t v iv).run P w = .ok x w ∧ R w B (e.E h) av x ∧ K av := by
  have hu := tk_array ht
  unfold indexAddrK at hK
  split at hK
  · rename_i k i
    obtain rfl := R_int hi
    have hrun : ∀ a : Addr, 0 ≤ i → i < n → (Instr.indexAt t (.pointer (some a)) (.int k i)).run P w = .ok (.pointer (some (a.add (i.toNat * tsz P el)))) w := by
      intro a h0 h1
      simp only [Instr.indexAt, asIntOf, Sem.run_bind, Sem.run_pure, Result.andThen_ok, run_underlying hu w, Instr.sureAddr]
      rw [if_pos ⟨h0, h1⟩]
      simp [run_sizeOf w hel]
    split at hK
    · rename_i n' cs hn'
      injection hn' with hn'; subst hn'
      obtain ⟨h0, h1, hK⟩ := hK
      obtain ⟨b, o, vs, rfl, hb, hc, hr⟩ := R_ip hv
      refine ⟨_, .ip (cs.drop (i.toNat * tsz P el)), hrun _ h0 h1, ?_, hK⟩
      rw [addr_add]
      refine .ip _ b _ (fun j => vs (i.toNat * tsz P el + j)) hb (fun j hj => ?_) (fun j hj => ?_)
      · rw [List.length_drop] at hj
        rw [Nat.add_assoc]; exact hc _ (by omega)
      · rw [List.length_drop] at hj
        have := hr (i.toNat * tsz P el + j) (by omega)
        simpa [List.getElem?_drop] using this
    · rename_i n' L sz i' j hn'
      injection hn' with hn'; subst hn'
      obtain ⟨h0, h1, hK⟩ := hK
      obtain ⟨g1, ⟨a, rfl⟩, g3⟩ := R_pt hv
      refine ⟨_, .pt L sz i' (j + i.toNat * tsz P el), hrun _ h0 h1, .ref _ _ ⟨g1, ⟨_, rfl⟩, fun hl => ?_⟩, hK⟩
      have := g3 hl
      injection this with this
      injection this with this
      rw [this, addr_add]
      simp [Nat.add_assoc]
    · rename_i hn'; cases hn'
    · rename_i hn'; cases hn'
    · rename_i hn'; cases hn'
    · exact hK.elim
  · exact hK.elim

/-- The place of a slice's element. -/
theorem indexSlice_sound {P : Program} {w : World} {B : Nat → Prop} {e : Env} {h : Hp} (hh : HRel w B e h) {t el : TypeId} (ht : tk P t = .slice el) (hel : tin P el = true)
    {a ix : AV} {v iv : Value} (hv : R w B (e.E h) a v) (hi : R w B (e.E h) ix iv) {K : AV → Prop} (hK : indexAddrK h none (tsz P el) a ix K) :
    ∃ x av, (Instr.indexAt t v iv).run P w = .ok x w ∧ R w B (e.E h) av x ∧ K av := by
  have hu := tk_slice ht
  unfold indexAddrK at hK
  split at hK
  · rename_i k i
    obtain rfl := R_int hi
    have hrun : ∀ (b o len cap : Nat), 0 ≤ i → i.toNat < len → (Instr.indexAt t (.slice (some ⟨b, o, none⟩) len cap) (.int k i)).run P w = .ok (.pointer (some ⟨b, o + i.toNat * tsz P el, none⟩)) w := by
      intro b o len cap h0 h1
      simp only [Instr.indexAt, asIntOf, Sem.run_bind, Sem.run_pure, Result.andThen_ok, run_underlying hu w]
      rw [if_pos ⟨h0, by omega⟩]
      simp [run_sizeOf w hel, addr_add]
    split at hK
    · rename_i hn'; cases hn'
    · rename_i hn'; cases hn'
    · rename_i ex sz xs _
      obtain ⟨rfl, h0, h1, hK⟩ := hK
      obtain ⟨a', cap, rfl, _, _, hx⟩ := R_l hv
      obtain ⟨b, off, vs, rfl, hb, hs, hc, hr, _⟩ := hx (by intro hE; rw [hE] at h1; simp at h1)
      refine ⟨_, .ip (xs[i.toNat]).cells, hrun b off _ _ h0 h1, ?_, hK⟩
      have hlen := hs i.toNat h1
      refine .ip _ b _ (fun j => vs i.toNat j) hb (fun j hj => ?_) (fun j hj => hr _ _ h1 (by omega))
      have := hc i.toNat j h1 (by omega)
      rw [Nat.add_assoc]; exact this
    · rename_i L _
      unfold indexC at hK
      split at hK
      · rename_i sz xs hcon
        obtain ⟨rfl, h0, h1, hK⟩ := hK
        obtain ⟨g1, g2, g3⟩ := R_os hv
        have g3 := g3 (by rw [hcon]; trivial)
        have hc := hh.con L g1
        rw [hcon] at hc
        obtain ⟨a', cap, hη, hcap, hsz, hcase⟩ := hc
        rcases hcase with h0' | ⟨ha', hsp, _⟩
        · omega
        rw [hη, ha'] at g3
        subst g3
        cases hβ : e.β L with
        | mk b o sp =>
          rw [hβ] at hsp
          simp only at hsp
          subst hsp
          refine ⟨_, .pt L (tsz P el) i.toNat 0, hrun b o _ _ h0 h1, .ref _ _ ⟨g1, ⟨_, rfl⟩, fun _ => ?_⟩, hK⟩
          rw [hβ]; simp
      · exact hK.elim
    · rename_i L sz a0 n0 _
      unfold viewC at hK
      split at hK
      · rename_i sz' xs hcon
        obtain ⟨rfl, hle, rfl, h0, h1, hK⟩ := hK
        obtain ⟨g1, g2, g3⟩ := R_sl hv
        obtain ⟨p, m, c, q, g4, g5, g6, g7⟩ := g3 (by rw [hcon]; trivial)
        have hc := hh.con L g1
        rw [hcon] at hc
        obtain ⟨a', cap, hη, hcap, hsz, hcase⟩ := hc
        rw [g4] at hη
        injection hη with e1 e2 e3
        subst e1; subst e2; subst e3
        rcases hcase with h0' | ⟨ha', hsp, _⟩
        · omega
        have g7 := g7 (by omega)
        rw [ha'] at g7
        subst g7
        subst g6
        cases hβ : e.β L with
        | mk b o sp =>
          rw [hβ] at hsp
          simp only at hsp
          subst hsp
          simp only [Option.map_some, addr_add]
          refine ⟨_, .pt L (tsz P el) (a0 + i.toNat) 0, hrun b _ _ _ h0 h1, .ref _ _ ⟨g1, ⟨_, rfl⟩, fun _ => ?_⟩, hK⟩
          rw [hβ]; simp [Nat.add_mul, Nat.add_assoc]
      · exact hK.elim
    · exact hK.elim
  · exact hK.elim

end Go.T
/- Soundness, fifth part: parts of values, tests, arithmetic. -/
namespace Go.T
open Go

theorem part_agg_R {P : Program} {w : World} {B : Nat → Prop} {e : Env} {h : Hp} {t : TypeId} (ht : tin P t = true) {cs : List AV} {vs : Array Value} (hs : vs.size = cs.length)
    (hr : ∀ j, j < cs.length → R w B (e.E h) (cs.getD j .undef) (vs.getD j undef)) {off : Nat} (ho : off + tsz P t ≤ cs.length) (hn : 0 < tsz P t) :
    ∃ x, (Go.part t vs off).run P w = .ok x w ∧ R w B (e.E h) (part (tk P t).agg (tsz P t) cs off) x := by
  refine ⟨rowVal (tk P t).agg (tsz P t) (fun x => vs.getD (off + x) undef), ?_, part_R ho hn (fun x hx => hr _ (by omega))⟩
  unfold Go.part
  rw [Sem.run_bind, run_isAgg w ht]
  simp only [Result.andThen_ok, rowVal]
  cases (tk P t).agg with
  | false =>
    have h1 : off < vs.size := by omega
    simp [h1]
  | true =>
    simp only [if_true, Sem.run_bind, run_sizeOf w ht, Result.andThen_ok]
    have : vs.extract off (off + tsz P t) = (((List.range (tsz P t)).map fun x => vs.getD (off + x) undef)).toArray := by
      apply Array.ext
      · simp; omega
      · intro i h1 h2
        simp at h1 h2
        simp [show off + i < vs.size by omega]
    simp [this]

theorem field_sound {P : Program} {w : World} {B : Nat → Prop} {e : Env} {h : Hp} {s : TypeId} {f off n : Nat} {t : TypeId} (hf : fof P s f = some (off, n, t))
    {cs : List AV} {v : Value} (hv : R w B (e.E h) (.agg cs) v) (ho : off + n ≤ cs.length) :
    ∃ x, (Instr.field s v f).run P w = .ok x w ∧ R w B (e.E h) (part (tk P t).agg n cs off) x := by
  obtain ⟨fs, fld, hu, hfl, rfl, rfl, rfl, hz, ht⟩ := fof_parts hf
  obtain ⟨vs, rfl, hs, hr⟩ := R_agg hv
  obtain ⟨x, hx, hR⟩ := part_agg_R (P := P) (t := fld.type) ht hs hr ho (by omega)
  refine ⟨x, ?_, hR⟩
  simp [Instr.field, run_underlying hu w, hfl, asAgg, hx]

theorem indexAgg_sound {P : Program} {w : World} {B : Nat → Prop} {e : Env} {h : Hp} {t el : TypeId} {n : Nat} (ht : tk P t = .array n el) (hel : tin P el = true)
    {a ix : AV} {v iv : Value} (hv : R w B (e.E h) a v) (hi : R w B (e.E h) ix iv) {K : AV → Prop} (hK : indexK (some (n, (tk P el).agg)) (tsz P el) a ix K) :
    ∃ x av, (Instr.index t v iv).run P w = .ok x w ∧ R w B (e.E h) av x ∧ K av := by
  have hu := tk_array ht
  unfold indexK at hK
  split at hK
  · rename_i k i
    obtain rfl := R_int hi
    split at hK
    · rename_i n' g cs heq
      injection heq with heq
      injection heq with h1 h2
      subst h1; subst h2
      obtain ⟨h0, h1, h2, h3, hK⟩ := hK
      obtain ⟨vs, rfl, hs, hr⟩ := R_agg hv
      obtain ⟨x, hx, hR⟩ := part_agg_R (P := P) (t := el) hel hs hr h2 h3
      refine ⟨x, _, ?_, hR, hK⟩
      simp only [Instr.index, asIntOf, Sem.run_bind, Sem.run_pure, Result.andThen_ok, run_underlying hu w]
      rw [if_pos ⟨h0, h1⟩]
      simp [run_sizeOf w hel, hx]
    · rename_i heq; cases heq
    · exact hK.elim
  · exact hK.elim

theorem indexStr_sound {P : Program} {w : World} {B : Nat → Prop} {e : Env} {h : Hp} {t : TypeId} (ht : tk P t = .string)
    {a ix : AV} {v iv : Value} (hv : R w B (e.E h) a v) (hi : R w B (e.E h) ix iv) {K : AV → Prop} (hK : indexK none 0 a ix K) :
    ∃ x av, (Instr.index t v iv).run P w = .ok x w ∧ R w B (e.E h) av x ∧ K av := by
  have hu := tk_string ht
  unfold indexK at hK
  split at hK
  · rename_i k i
    obtain rfl := R_int hi
    split at hK
    · rename_i heq; cases heq
    · rename_i s _
      obtain ⟨h0, h1, hK⟩ := hK
      obtain rfl := R_str hv
      refine ⟨_, _, ?_, .int _ _, hK⟩
      simp only [Instr.index, asIntOf, Sem.run_bind, Sem.run_pure, Result.andThen_ok, run_underlying hu w]
      rw [if_pos h0]
      have : s[i.toNat]? = some s[i.toNat] := by simp [h1]
      simp [this]
    · exact hK.elim
  · exact hK.elim

theorem unK_sound {P : Program} {w : World} {B : Nat → Prop} {e : Env} {h : Hp} {op : UnOp} {a : AV} {v : Value} (hv : R w B (e.E h) a v) {K : AV → Prop} (hK : unK op a K) :
    ∃ x av, (Op.unary op v).run P w = .ok x w ∧ R w B (e.E h) av x ∧ K av := by
  unfold unK at hK
  split at hK
  · obtain rfl := R_bool hv
    exact ⟨_, _, rfl, .bool _, hK⟩
  · obtain rfl := R_int hv
    exact ⟨_, _, rfl, .int _ _, hK⟩
  · obtain rfl := R_int hv
    exact ⟨_, _, rfl, .int _ _, hK⟩
  · exact hK.elim

theorem eqGuard_other {P : Program} {w : World} (op : BinOp) (t : TypeId) (x y : Operand) (a b : Value) (h1 : a ≠ .nilIface) (h2 : ∀ cs, a ≠ .agg cs) : (eqGuard op t x y a b).run P w = .ok () w := by
  cases a <;> first
    | exact absurd rfl h1
    | exact absurd rfl (h2 _)
    | (unfold eqGuard; cases op <;> rfl)

theorem intBin_sound {P : Program} {w : World} {op : BinOp} {k : IntKind} {a b : Int} {v : AV} (h : intBin op k a b = some v) (h1 : op ≠ .shl) (h2 : op ≠ .shr) (t : TypeId) :
    ∃ x, (Go.binOp op t (.int k a) (.int k b)).run P w = .ok x w ∧ ∀ B (e : Env) hp, R w B (e.E hp) v x := by
  cases op <;> simp only [intBin, reduceCtorEq, Option.some.injEq] at h <;> subst h <;>
    first
    | exact ⟨_, rfl, fun _ _ _ => .int _ _⟩
    | exact ⟨_, rfl, fun _ _ _ => .bool _⟩
    | exact absurd rfl h1
    | exact absurd rfl h2
    | (refine ⟨_, ?_, fun _ _ _ => .int _ _⟩; simp [Go.binOp, Op.intArith, Op.intBits])
    | (refine ⟨_, ?_, fun _ _ _ => .bool _⟩; simp [Go.binOp, Op.intCmp])

end Go.T
/- Soundness, sixth part: equality, binary operations. -/
namespace Go.T
open Go

def intRow (k : Nat → IntKind) (a : Nat → Int) (off : Nat) : Nat → Value := fun j => .int (k (off + j)) (a (off + j))

theorem run_part_row {P : Program} {t : TypeId} (w : World) (ht : tin P t = true) (n o : Nat) (vs : Nat → Value) (h : o + tsz P t ≤ n) (hn : 0 < tsz P t) :
    (Go.part t ((List.range n).map vs).toArray o).run P w = .ok (rowVal (tk P t).agg (tsz P t) (fun j => vs (o + j))) w := by
  unfold Go.part
  rw [Sem.run_bind, run_isAgg w ht]
  simp only [Result.andThen_ok, rowVal]
  cases (tk P t).agg with
  | false =>
    have h1 : o < n := by omega
    simp [h1]
  | true =>
    simp only [if_true, Sem.run_bind, run_sizeOf w ht, Result.andThen_ok]
    have : (((List.range n).map vs).toArray).extract o (o + tsz P t) = ((List.range (tsz P t)).map fun j => vs (o + j)).toArray := by
      apply Array.ext
      · simp; omega
      · intro i h1 h2
        simp at h1 h2
        simp
    simp [this]

theorem tk_agg_struct {P : Program} {t : TypeId} {fs : Array Field} (h : P.underlying t = some (.struct fs)) : (tk P t).agg = true := by simp [tk, h, TK.agg]
theorem tk_agg_array {P : Program} {t e : TypeId} {n : Nat} (h : P.underlying t = some (.array n e)) : (tk P t).agg = true := by simp [tk, h, TK.agg]
theorem tk_agg_int {P : Program} {t : TypeId} {k : IntKind} (h : P.underlying t = some (.int k)) : (tk P t).agg = false := by simp [tk, h, TK.agg]

theorem flat_pos {P : Program} : ∀ (d : Nat) (t : TypeId), flatTy P d t = true → tin P t = true := by
  intro d t h
  cases d with
  | zero => simp [flatTy] at h
  | succ d => simp only [flatTy, Bool.and_eq_true] at h; exact h.1

theorem flat_eq {P : Program} : ∀ (d : Nat) (t : TypeId), flatTy P d t = true → 0 < tsz P t → ∀ (D : Nat), d ≤ D → ∀ (w : World) (k : Nat → IntKind) (a b : Nat → Int) (off : Nat),
    (Op.equalIn D t (rowVal (tk P t).agg (tsz P t) (intRow k a off)) (rowVal (tk P t).agg (tsz P t) (intRow k b off))).run P w =
      .ok (decide (∀ j, j < tsz P t → a (off + j) = b (off + j))) w := by
  intro d
  induction d using Nat.strongRecOn with
  | _ d ih =>
  intro t h hpos D hD w k a b off
  cases d with
  | zero => simp [flatTy] at h
  | succ d =>
  obtain ⟨D, rfl⟩ : ∃ m, D = m + 1 := ⟨D - 1, by omega⟩
  simp only [flatTy, Bool.and_eq_true] at h
  obtain ⟨htin, h⟩ := h
  split at h
  · rename_i kk hu
    have h1 : tsz P t = 1 := by simpa using h
    rw [tk_agg_int hu, h1]
    simp only [rowVal, Bool.false_eq_true, if_false, intRow]
    rw [run_equalIn_int w D t _ _ _ _ hu]
    congr 1
    rw [Bool.eq_iff_iff]
    simp
  · rename_i fs hu
    simp only [Bool.and_eq_true, Bool.not_eq_true'] at h
    obtain ⟨hst, hfs⟩ := h
    rw [tk_agg_struct hu]
    simp only [rowVal, if_true]
    have hfo : P.fieldsOf t = fs := by simp [Program.fieldsOf, hu]
    rw [run_equalIn_struct w D t _ _ (by rw [hfo]; exact hu) hst, hfo]
    generalize hn : tsz P t = n at *
    have key : ∀ (fl : List Field) (q : Nat), flatFs P (flatTy P d) fl q n = true → q ≤ n →
        (Op.eqFields D ((List.range n).map (intRow k a off)).toArray ((List.range n).map (intRow k b off)).toArray fl).run P w =
          .ok (decide (∀ j, j < n → q ≤ j → a (off + j) = b (off + j))) w := by
      intro fl
      induction fl with
      | nil =>
        intro q hq _
        have : q = n := by simpa [flatFs] using hq
        subst this
        simp only [Op.eqFields, Sem.run_pure]
        congr 1
        symm
        rw [decide_eq_true_eq]
        intro j h1 h2; omega
      | cons f fl ihf =>
        intro q hq hqn
        simp only [flatFs, Bool.and_eq_true, decide_eq_true_eq] at hq
        obtain ⟨⟨⟨⟨h1, h2⟩, h3⟩, h4⟩, h5⟩ := hq
        have hfn : f.name ≠ "_" := by simpa using h1
        have hfo' : f.offset = q := by simpa using h2
        have hle : q + tsz P f.type ≤ n := by
          have aux : ∀ (fl : List Field) (q : Nat), flatFs P (flatTy P d) fl q n = true → q ≤ n := by
            intro fl
            induction fl with
            | nil => intro q hq; have : q = n := by simpa [flatFs] using hq
                     omega
            | cons g gl ihg =>
              intro q hq
              simp only [flatFs, Bool.and_eq_true, decide_eq_true_eq] at hq
              have := ihg _ hq.2
              omega
          exact aux _ _ h5
        simp only [Op.eqFields]
        rw [if_pos hfn]
        simp only [Sem.run_bind]
        rw [hfo', run_part_row w (flat_pos d f.type h4) n q _ hle h3, Result.andThen_ok, run_part_row w (flat_pos d f.type h4) n q _ hle h3, Result.andThen_ok]
        have he := ih d (by omega) f.type h4 h3 D (by omega) w k a b (off + q)
        have e1 : ∀ c : Nat → Int, (fun j => intRow k c off (q + j)) = intRow k c (off + q) := by
          intro c; funext j; simp [intRow, Nat.add_assoc]
        rw [e1, e1, he, Result.andThen_ok]
        by_cases hall : ∀ j, j < tsz P f.type → a (off + q + j) = b (off + q + j)
        · rw [decide_eq_true hall]
          simp only [Bool.not_true, Bool.false_eq_true, if_false]
          rw [ihf _ h5 hle]
          congr 1
          rw [Bool.eq_iff_iff]
          simp only [decide_eq_true_eq]
          constructor
          · intro hx j h2 h1
            by_cases hj : q + tsz P f.type ≤ j
            · exact hx j h2 hj
            · have := hall (j - q) (by omega)
              have e2 : off + q + (j - q) = off + j := by omega
              rwa [e2] at this
          · intro hx j h2 h1
            exact hx j h2 (by omega)
        · rw [decide_eq_false hall]
          simp only [Bool.not_false, if_true, Sem.run_pure]
          congr 1
          symm
          rw [decide_eq_false_iff_not]
          intro hx
          apply hall
          intro j hj
          have := hx (q + j) (by omega) (by omega)
          rwa [← Nat.add_assoc] at this
    rw [key fs.toList 0 hfs (by omega)]
    congr 1
    rw [Bool.eq_iff_iff]
    simp
  · rename_i m el hu
    simp only [Bool.and_eq_true] at h
    obtain ⟨hel, hsz⟩ := h
    have hsz : tsz P t = m * tsz P el := by simpa using hsz
    have htel := flat_pos d el hel
    have hpe : 0 < tsz P el := by
      rcases Nat.eq_zero_or_pos (tsz P el) with h0 | h0
      · rw [h0] at hsz; omega
      · exact h0
    obtain ⟨ie, de, hie, hue, hse⟩ := tin_parts htel
    rw [tk_agg_array hu]
    simp only [rowVal, if_true]
    rw [run_equalIn_array (P := P) w D _ _ hu hie]
    have hce : P.cellsOf el = tsz P el := by simp [Program.cellsOf, tsz, hie]
    rw [hce]
    generalize hn : tsz P t = n at *
    have key : ∀ (q r : Nat), q + r = m →
        (Op.eqItems D el (tsz P el) ((List.range n).map (intRow k a off)).toArray ((List.range n).map (intRow k b off)).toArray (List.range' q r)).run P w =
          .ok (decide (∀ j, j < n → q * tsz P el ≤ j → a (off + j) = b (off + j))) w := by
      intro q r
      induction r generalizing q with
      | zero =>
        intro hq
        have : q = m := by omega
        subst this
        simp only [List.range'_zero, Op.eqItems, Sem.run_pure]
        congr 1
        symm
        rw [decide_eq_true_eq]
        intro j h1 h2; omega
      | succ r ihr =>
        intro hq
        have hle : q * tsz P el + tsz P el ≤ n := by
          have : (q + 1) * tsz P el ≤ m * tsz P el := Nat.mul_le_mul_right _ (by omega)
          rw [Nat.add_mul] at this
          omega
        simp only [List.range'_succ, Op.eqItems, Sem.run_bind]
        rw [run_part_row w htel n _ _ hle hpe, Result.andThen_ok, run_part_row w htel n _ _ hle hpe, Result.andThen_ok]
        have he := ih d (by omega) el hel hpe D (by omega) w k a b (off + q * tsz P el)
        have e1 : ∀ c : Nat → Int, (fun j => intRow k c off (q * tsz P el + j)) = intRow k c (off + q * tsz P el) := by
          intro c; funext j; simp [intRow, Nat.add_assoc]
        rw [e1, e1, he, Result.andThen_ok]
        by_cases hall : ∀ j, j < tsz P el → a (off + q * tsz P el + j) = b (off + q * tsz P el + j)
        · rw [decide_eq_true hall]
          simp only [Bool.not_true, Bool.false_eq_true, if_false]
          rw [ihr (q + 1) (by omega)]
          congr 1
          rw [Bool.eq_iff_iff]
          simp only [decide_eq_true_eq, Nat.add_mul, Nat.one_mul]
          constructor
          · intro hx j h2 h1
            by_cases hj : q * tsz P el + tsz P el ≤ j
            · exact hx j h2 hj
            · have := hall (j - q * tsz P el) (by omega)
              have e2 : off + q * tsz P el + (j - q * tsz P el) = off + j := by omega
              rwa [e2] at this
          · intro hx j h2 h1
            exact hx j h2 (by omega)
        · rw [decide_eq_false hall]
          simp only [Bool.not_false, if_true, Sem.run_pure]
          congr 1
          symm
          rw [decide_eq_false_iff_not]
          intro hx
          apply hall
          intro j hj
          have := hx (q * tsz P el + j) (by omega) (by omega)
          rwa [← Nat.add_assoc] at this
    rw [show List.range m = List.range' 0 m from List.range_eq_range', key 0 m (by omega)]
    congr 1
    rw [Bool.eq_iff_iff]
    simp
  · cases h

end Go.T
/- Soundness, seventh part: tests and arithmetic of two values. -/
namespace Go.T
open Go

theorem cellsEq_ints : ∀ (cs ds : List AV) (b : Bool), cellsEq cs ds = some b → ds.length = cs.length ∧ ∃ (k : Nat → IntKind) (u v : Nat → Int),
    (∀ j, j < cs.length → cs.getD j .undef = .int (k j) (u j)) ∧ (∀ j, j < cs.length → ds.getD j .undef = .int (k j) (v j)) ∧ (b = decide (∀ j, j < cs.length → u j = v j)) := by
  intro cs
  induction cs with
  | nil =>
    intro ds b h
    cases ds with
    | nil => simp [cellsEq] at h; subst h; exact ⟨rfl, fun _ => .i64, fun _ => 0, fun _ => 0, fun j hj => by simp at hj, fun j hj => by simp at hj, by simp⟩
    | cons d ds => simp [cellsEq] at h
  | cons c cs ih =>
    intro ds b h
    cases ds with
    | nil => cases c <;> simp [cellsEq] at h
    | cons d ds =>
      cases c <;> try (simp [cellsEq] at h; done)
      cases d <;> try (simp [cellsEq] at h; done)
      rename_i k a k' a'
      simp only [cellsEq] at h
      split at h
      · rename_i hk
        subst hk
        rw [Option.map_eq_some_iff] at h
        obtain ⟨b', hb', rfl⟩ := h
        obtain ⟨h1, kf, u, v, h2, h3, h4⟩ := ih ds b' hb'
        refine ⟨by simp [h1], fun j => if j = 0 then k else kf (j - 1), fun j => if j = 0 then a else u (j - 1), fun j => if j = 0 then a' else v (j - 1), ?_, ?_, ?_⟩
        · intro j hj
          cases j with
          | zero => simp
          | succ j => simpa using h2 j (by simpa using hj)
        · intro j hj
          cases j with
          | zero => simp
          | succ j => simpa using h3 j (by simpa using hj)
        · rw [h4, Bool.eq_iff_iff]
          simp only [Bool.and_eq_true, beq_iff_eq, decide_eq_true_eq, List.length_cons]
          constructor
          · rintro ⟨g1, g2⟩ j hj
            cases j with
            | zero => simpa using g1
            | succ j => simpa using g2 j (by omega)
          · intro g
            refine ⟨by simpa using g 0 (by omega), fun j hj => ?_⟩
            simpa using g (j + 1) (by omega)
      · cases h

theorem eqGuard_agg {P : Program} {w : World} (op : BinOp) (t : TypeId) (x y : Operand) (a b : Array Value) (h : P.eqGuardType P.depth t = false) : (eqGuard op t x y (.agg a) (.agg b)).run P w = .ok () w :=
  run_eqGuard_agg w op t x y a b h

theorem aggRow {w : World} {B : Nat → Prop} {e : Env} {h : Hp} {cs : List AV} {v : Value} (hR : R w B (e.E h) (.agg cs) v) {n : Nat} (hn : cs.length = n) {k : Nat → IntKind} {u : Nat → Int}
    (hi : ∀ j, j < cs.length → cs.getD j .undef = .int (k j) (u j)) : v = rowVal true n (intRow k u 0) := by
  obtain ⟨vs, rfl, hs, hr⟩ := R_agg hR
  simp only [rowVal, if_true]
  congr 1
  apply Array.ext
  · simp; omega
  · intro j h1 h2
    have hj : j < cs.length := by omega
    have := hr j hj
    rw [hi j hj] at this
    have := R_int this
    simp only [Array.getD_eq_getD_getElem?, h1, getElem?_pos, Option.getD_some] at this
    rw [this]
    simp [intRow]

theorem tk_pointer {P : Program} {t : TypeId} (h : tk P t = .pointer) : P.underlying t = some (.pointer (P.pointee t)) := by
  unfold tk at h
  split at h <;> first | (cases h; done) | skip
  rename_i e hu; rw [hu]; simp [Program.pointee, hu]
theorem tk_func {P : Program} {t : TypeId} (h : tk P t = .func) : ∃ a b c, P.underlying t = some (.func a b c) := by
  unfold tk at h
  split at h <;> first | (cases h; done) | skip
  rename_i a b c hu; exact ⟨a, b, c, hu⟩

theorem equalIn_func {P : Program} (w : World) (d : Nat) {t : TypeId} {a b c} (hu : P.underlying t = some (.func a b c)) (f : Fn) (vs : Array Value) :
    (Op.equalIn (d + 1) t (.func f #[] vs) .nilFunc).run P w = .ok false w := by
  simp [Op.equalIn, run_underlying hu]
theorem equalIn_nilf {P : Program} (w : World) (d : Nat) {t : TypeId} {a b c} (hu : P.underlying t = some (.func a b c)) :
    (Op.equalIn (d + 1) t .nilFunc .nilFunc).run P w = .ok true w := by
  simp [Op.equalIn, run_underlying hu]

theorem eqK_sound {P : Program} {w : World} {B : Nat → Prop} {e : Env} {h : Hp} {xt : TypeId} {a b : AV} {x y : Value} (hx : R w B (e.E h) a x) (hy : R w B (e.E h) b y) {K : Bool → Prop}
    (ox oy : Operand) (hyn : nilSlice oy = true → ∃ n c, y = .slice none n c) (hK : eqK (EqI.mk' P xt oy) a b K) :
    (∃ r, (∀ op, (eqGuard op xt ox oy x y).run P w = .ok () w) ∧ (Op.equal xt x y).run P w = .ok r w ∧ K r ∧
      (∀ k n, x ≠ .int k n) ∧ (∀ s, x ≠ .string s) ∧ (∀ k n, x ≠ .float k n) ∧ (∀ k n m, x ≠ .complex k n m)) := by
  unfold eqK at hK
  simp only [EqI.mk'] at hK
  split at hK
  · rename_i hk
    obtain rfl := R_bool hx
    obtain rfl := R_bool hy
    exact ⟨_, fun op => eqGuard_other op _ _ _ _ _ (by simp) (by simp), run_equalIn_bool' w 9999 xt _ _ (tk_bool hk), hK, by simp, by simp, by simp, by simp⟩
  · rename_i hk
    obtain ⟨_, _, _, rfl, _⟩ := R_ip hx
    obtain rfl := R_nilp hy
    exact ⟨_, fun op => eqGuard_other op _ _ _ _ _ (by simp) (by simp), run_equal_pointer_nil w xt _ (tk_pointer hk), hK, by simp, by simp, by simp, by simp⟩
  · rename_i hk
    obtain ⟨_, ⟨_, rfl⟩, _⟩ := R_pt hx
    obtain rfl := R_nilp hy
    exact ⟨_, fun op => eqGuard_other op _ _ _ _ _ (by simp) (by simp), run_equal_pointer_nil w xt _ (tk_pointer hk), hK, by simp, by simp, by simp, by simp⟩
  · rename_i hk
    obtain rfl := R_nilp hx
    obtain rfl := R_nilp hy
    exact ⟨_, fun op => eqGuard_other op _ _ _ _ _ (by simp) (by simp), run_equal_pointer_nil w xt _ (tk_pointer hk), hK, by simp, by simp, by simp, by simp⟩
  · rename_i hk
    obtain ⟨a', b', c', hu⟩ := tk_func hk
    obtain ⟨vs, rfl, _⟩ := R_fn hx
    obtain rfl := R_nilf hy
    exact ⟨_, fun op => eqGuard_other op _ _ _ _ _ (by simp) (by simp), equalIn_func w 9999 hu _ _, hK, by simp, by simp, by simp, by simp⟩
  · rename_i hk
    obtain ⟨a', b', c', hu⟩ := tk_func hk
    obtain rfl := R_nilf hx
    obtain rfl := R_nilf hy
    exact ⟨_, fun op => eqGuard_other op _ _ _ _ _ (by simp) (by simp), equalIn_nilf w 9999 hu, hK, by simp, by simp, by simp, by simp⟩
  · rename_i el _ _ xs _ _ _ hk
    obtain ⟨hy0, hK1, hK2⟩ := hK
    obtain ⟨n', c', rfl⟩ := hyn hy0
    obtain ⟨a', cap, rfl, _, _, hne⟩ := R_l hx
    have hrun := Lib.run_equalIn_slice_nil (P := P) w 9999 xt el a' xs.length cap n' c' (tk_slice hk)
    refine ⟨a'.isNone, fun op => eqGuard_other op _ _ _ _ _ (by simp) (by simp), hrun, ?_, by simp, by simp, by simp, by simp⟩
    cases a' with
    | none =>
      refine hK1 (Classical.byContradiction fun hx' => ?_)
      obtain ⟨_, _, _, h0, _⟩ := hne hx'
      cases h0
    | some _ => exact hK2
  · rename_i cs ds
    obtain ⟨h1, h0, h2, r, h3, hK⟩ := hK
    unfold structEq at h1
    simp only [Bool.and_eq_true, Bool.not_eq_true'] at h1
    obtain ⟨⟨h4, h5⟩, h6⟩ := h1
    obtain ⟨g1, k, u, v, g2, g3, g4⟩ := cellsEq_ints cs ds r h3
    have e1 := aggRow hx h2 g2
    have e2 := aggRow hy (g1.trans h2) (fun j hj => g3 j (by omega))
    subst e1; subst e2
    have hf := flat_eq 12 xt h5 h0 10000 (by omega) w k u v 0
    rw [h6] at hf
    refine ⟨r, fun op => eqGuard_agg op _ _ _ _ _ h4, ?_, hK, by simp [rowVal], by simp [rowVal], by simp [rowVal], by simp [rowVal]⟩
    rw [g4]
    simp only [Nat.zero_add] at hf
    rw [h2]
    exact hf
  · exact hK.elim

theorem binOp_eql (t : TypeId) (x y : Value) (h1 : ∀ k n, x ≠ .int k n) (h2 : ∀ s, x ≠ .string s) (h3 : ∀ k n, x ≠ .float k n) (h4 : ∀ k n m, x ≠ .complex k n m) :
    Go.binOp .eql t x y = (do pure (.bool (← Op.equal t x y))) ∧ Go.binOp .neq t x y = (do pure (.bool (!(← Op.equal t x y)))) := by
  constructor <;> (cases x <;> first | exact absurd rfl (h1 _ _) | exact absurd rfl (h2 _) | exact absurd rfl (h3 _ _) | exact absurd rfl (h4 _ _ _) | rfl)

/-- Two values and an operator. -/
theorem binK_sound {P : Program} {w : World} {B : Nat → Prop} {e : Env} {h : Hp} {op : BinOp} {xt : TypeId} {a b : AV} {x y : Value} (hx : R w B (e.E h) a x) (hy : R w B (e.E h) b y) {K : AV → Prop}
    (ox oy : Operand) (hyn : nilSlice oy = true → ∃ n c, y = .slice none n c) (hK : binK (EqI.mk' P xt oy) op a b K) :
    ∃ v av, (do eqGuard op xt ox oy x y; Go.binOp op xt x y : Sem Value).run P w = .ok v w ∧ R w B (e.E h) av v ∧ K av := by
  unfold binK at hK
  split at hK
  · rename_i k u k' v
    obtain rfl := R_int hx
    obtain rfl := R_int hy
    rw [Sem.run_bind, eqGuard_other op _ _ _ _ _ (by simp) (by simp), Result.andThen_ok]
    split at hK
    · obtain ⟨h0, hK⟩ := hK
      refine ⟨_, _, ?_, .int _ _, hK⟩
      simp only [Go.binOp, Op.shift]
      rw [if_neg (by omega)]; rfl
    · obtain ⟨h0, hK⟩ := hK
      refine ⟨_, _, ?_, .int _ _, hK⟩
      simp only [Go.binOp, Op.shift]
      rw [if_neg (by omega)]; rfl
    · obtain ⟨h0, rfl, hK⟩ := hK
      refine ⟨_, _, ?_, .int _ _, hK⟩
      simp [Go.binOp, Op.intDiv, h0]
    · obtain ⟨h0, rfl, hK⟩ := hK
      refine ⟨_, _, ?_, .int _ _, hK⟩
      simp [Go.binOp, Op.intDiv, h0]
    · rename_i o n1 n2 n3 n4
      obtain ⟨rfl, vv, h1, hK⟩ := hK
      obtain ⟨r, hr, hR⟩ := intBin_sound (P := P) (w := w) h1 (fun h => n1 h) (fun h => n2 h) xt
      exact ⟨r, vv, hr, hR B e h, hK⟩
  · rename_i s t
    obtain rfl := R_str hx
    obtain rfl := R_str hy
    rw [Sem.run_bind, eqGuard_other op _ _ _ _ _ (by simp) (by simp), Result.andThen_ok]
    split at hK
    · obtain ⟨h0, hK⟩ := hK
      refine ⟨_, _, ?_, .str _, hK⟩
      simp only [Go.binOp, Op.stringOp]
      rw [if_neg (by simp only [IntKind.max, IntKind.signed, IntKind.bits]; simp only [if_true]; omega)]
      rfl
    · refine ⟨_, _, ?_, .bool _, hK⟩
      simp only [Go.binOp, Op.stringOp, beq_toListBytes]
      rfl
    · refine ⟨_, _, ?_, .bool _, hK⟩
      simp only [Go.binOp, Op.stringOp, bne, beq_toListBytes]
      rfl
    · exact hK.elim
  · split at hK
    · obtain ⟨r, g1, g2, g3, h1, h2, h3, h4⟩ := eqK_sound hx hy ox oy hyn hK
      refine ⟨.bool r, _, ?_, .bool _, g3⟩
      rw [Sem.run_bind, g1, Result.andThen_ok, (binOp_eql xt x y h1 h2 h3 h4).1]
      simp [g2]
    · obtain ⟨r, g1, g2, g3, h1, h2, h3, h4⟩ := eqK_sound hx hy ox oy hyn hK
      refine ⟨.bool (!r), _, ?_, .bool _, g3⟩
      rw [Sem.run_bind, g1, Result.andThen_ok, (binOp_eql xt x y h1 h2 h3 h4).2]
      simp [g2]
    · exact hK.elim

end Go.T
/- Soundness, eighth part: what makes new memory, and aggregates. -/
namespace Go.T
open Go

/-- A new row of cells under a label. -/
theorem newBlk {w : World} {B : Nat → Prop} {e : Env} {h : Hp} (hh : HRel w B e h) (f s : Nat) (cs : List AV) (vs : Array Value) (T : TypeId) (hs : vs.size = cs.length)
    (hr : ∀ j, j < cs.length → R w B (e.E h) (cs.getD j .undef) (vs.getD j undef)) :
    ∃ e', HRel (World.pushObj w (.cells vs T)) B e' (h.alloc f s (.blk cs)) ∧ Ext w B e h (World.pushObj w (.cells vs T)) B e' (h.alloc f s (.blk cs)) ∧
      e'.E (h.alloc f s (.blk cs)) (.pt (h.fresh f s) 0 0 0) (.pointer (some ⟨w.heap.size, 0, none⟩)) := by
  let e' := e.upd (h.fresh f s) ⟨w.heap.size, 0, none⟩ (.bool false)
  have xt : Ext w B e h (World.pushObj w (.cells vs T)) B e' (h.alloc f s (.blk cs)) :=
    Ext.alloc f s _ (.cells vs T) _ _ _ rfl rfl rfl rfl (fun _ h => h) (fun _ h => .inl h) rfl
  have hβ : e'.β (h.fresh f s) = ⟨w.heap.size, 0, none⟩ := by simp [e', Env.upd]
  refine ⟨e', ?_, xt, alloc_fresh_lt, ⟨_, rfl⟩, fun _ => by rw [hβ]⟩
  refine HRel.alloc hh f s _ (.cells vs T) _ _ _ rfl rfl rfl rfl (fun _ h => h) (fun _ h => .inl h) rfl ?_
  show ConRel _ B e' _ _ _
  refine ⟨?_, by rw [hβ], vs, T, ?_, hs, fun j hj => (hr j hj).ext hh xt⟩
  · rw [hβ]; intro hb; have := hh.bnd _ hb; simp at this
  · rw [hβ]; show (w.heap.push _)[w.heap.size]? = _; simp

/-- The same, the type kept in mind. -/
theorem newBt {w : World} {B : Nat → Prop} {e : Env} {h : Hp} (hh : HRel w B e h) (f s : Nat) (cs : List AV) (vs : Array Value) (T : TypeId) (hs : vs.size = cs.length ∧ nilOk cs vs)
    (hr : ∀ j, j < cs.length → R w B (e.E h) (cs.getD j .undef) (vs.getD j undef)) :
    ∃ e', HRel (World.pushObj w (.cells vs T)) B e' (h.alloc f s (.bt T cs)) ∧ Ext w B e h (World.pushObj w (.cells vs T)) B e' (h.alloc f s (.bt T cs)) ∧
      e'.E (h.alloc f s (.bt T cs)) (.pt (h.fresh f s) 0 0 0) (.pointer (some ⟨w.heap.size, 0, none⟩)) := by
  let e' := e.upd (h.fresh f s) ⟨w.heap.size, 0, none⟩ (.bool false)
  have xt : Ext w B e h (World.pushObj w (.cells vs T)) B e' (h.alloc f s (.bt T cs)) :=
    Ext.alloc f s _ (.cells vs T) _ _ _ rfl rfl rfl rfl (fun _ h => h) (fun _ h => .inl h) rfl
  have hβ : e'.β (h.fresh f s) = ⟨w.heap.size, 0, none⟩ := by simp [e', Env.upd]
  refine ⟨e', ?_, xt, alloc_fresh_lt, ⟨_, rfl⟩, fun _ => by rw [hβ]⟩
  refine HRel.alloc hh f s _ (.cells vs T) _ _ _ rfl rfl rfl rfl (fun _ h => h) (fun _ h => .inl h) rfl ?_
  show ConRel _ B e' _ _ _
  refine ⟨?_, by rw [hβ], vs, ?_, hs, fun j hj => (hr j hj).ext hh xt⟩
  · rw [hβ]; intro hb; have := hh.bnd _ hb; simp at this
  · rw [hβ]; show (w.heap.push _)[w.heap.size]? = _; simp

theorem tok_parts {P : Program} {t : TypeId} (h : tok P t = true) : ∃ i d z, P.info? t = some i ∧ P.underlying t = some d ∧ i.zero = some z ∧ tzero P t = AV.ofVal z ∧ tsz P t = i.size ∧ tin P t = true ∧ tbytes P t = i.bytes ∧
    (∀ x ∈ z.cells.toList, x.oneCell' = true) ∧ z.cells.size = i.size := by
  unfold tok at h
  cases hi : P.info? t with
  | none => simp [hi] at h
  | some i =>
    simp only [hi, Bool.and_eq_true] at h
    obtain ⟨h1, h2⟩ := h
    cases hz : i.zero with
    | none => simp [hz] at h1
    | some z =>
      simp only [hz, Bool.and_eq_true, beq_iff_eq] at h1
      cases hu : P.underlying t with
      | none => simp [hu] at h2
      | some d => exact ⟨i, d, z, rfl, rfl, hz, by simp [tzero, hi, hz], by simp [tsz, hi], by simp [tin, hi, hu], by simp [tbytes, hi], List.all_eq_true.1 h1.1, h1.2⟩

theorem ofVals_length (cs : List Value) : (AV.ofVals cs).length = cs.length := by
  induction cs with
  | nil => rfl
  | cons x xs ih => simp [AV.ofVals, ih]

theorem ofVals_getD (cs : List Value) : ∀ j, j < cs.length → (AV.ofVals cs).getD j .undef = AV.ofVal (cs.getD j undef) := by
  induction cs with
  | nil => intro j hj; simp at hj
  | cons x xs ih =>
    intro j hj
    cases j with
    | zero => simp [AV.ofVals]
    | succ j => simp only [AV.ofVals, List.getD_cons_succ]; exact ih j (by simpa using hj)

/-- The cells of a constant. -/
theorem ofVal_cells {w : World} {B : Nat → Prop} {E : AV → Value → Prop} (z : Value) : z.cells.size = (AV.ofVal z).cells.length ∧ ∀ j, j < (AV.ofVal z).cells.length → R w B E ((AV.ofVal z).cells.getD j .undef) (z.cells.getD j undef) := by
  have one : (∀ cs, z ≠ .agg cs) → z.cells = #[z] := by
    intro h; cases z <;> first | rfl | exact absurd rfl (h _)
  by_cases hag : ∃ cs, z = .agg cs
  · obtain ⟨⟨cs⟩, rfl⟩ := hag
    have : AV.ofVal (.agg ⟨cs⟩) = .agg (AV.ofVals cs) := by simp [AV.ofVal]
    rw [this]
    refine ⟨by simp [Value.cells, AV.cells, ofVals_length], fun j hj => ?_⟩
    simp only [AV.cells, ofVals_length] at hj
    simp only [AV.cells, ofVals_getD cs j hj, Value.cells]
    have : (⟨cs⟩ : Array Value).getD j undef = cs.getD j undef := by simp
    rw [this]; exact ofVal_R _
  · have h1 := one (fun cs h => hag ⟨cs, h⟩)
    have h2 : (AV.ofVal z).cells = [AV.ofVal z] := by
      unfold AV.ofVal
      split <;> first | rfl | (rename_i cs; exact absurd ⟨_, rfl⟩ hag)
    rw [h1, h2]
    refine ⟨rfl, fun j hj => ?_⟩
    have : j = 0 := by simpa using hj
    subst this
    simpa using ofVal_R z

theorem ofVal_nil {v : Value} (h : AV.ofVal v = .l true 0 []) : v = .slice .none 0 0 := by
  unfold AV.ofVal at h
  split at h <;> first | rfl | (cases h; done)
theorem ofVal_nilOk (z : Value) : nilOk (AV.ofVal z).cells z.cells := by
  intro j hj h
  by_cases hag : ∃ cs, z = .agg cs
  · obtain ⟨⟨cs⟩, rfl⟩ := hag
    have e : AV.ofVal (.agg ⟨cs⟩) = .agg (AV.ofVals cs) := by simp [AV.ofVal]
    rw [e] at h hj
    simp only [AV.cells, ofVals_length] at hj h
    rw [ofVals_getD cs j hj] at h
    have := ofVal_nil h
    simpa [Value.cells] using this
  · have h1 : z.cells = #[z] := by cases z <;> first | rfl | exact absurd ⟨_, rfl⟩ hag
    have h2 : (AV.ofVal z).cells = [AV.ofVal z] := by
      unfold AV.ofVal
      split <;> first | rfl | (rename_i cs; exact absurd ⟨_, rfl⟩ hag)
    rw [h2] at h hj
    have : j = 0 := by simpa using hj
    subst this
    rw [h1]
    simpa using ofVal_nil (by simpa using h)
theorem alloc_sound {P : Program} {w : World} {B : Nat → Prop} {e : Env} {h : Hp} (hh : HRel w B e h) {t : TypeId} (ht : tok P t = true) (f s : Nat) :
    ∃ w' e' v, (Instr.alloc t true (.tuple #[])).run P w = .ok v w' ∧ HRel w' B e' (h.alloc f s (newC P t (tzero P t).cells)) ∧ Ext w B e h w' B e' (h.alloc f s (newC P t (tzero P t).cells)) ∧
      e'.E (h.alloc f s (newC P t (tzero P t).cells)) (.pt (h.fresh f s) 0 0 0) v := by
  obtain ⟨i, d, z, hi, hu, hz, htz, hs, htin, _⟩ := tok_parts ht
  have hz' := ofVal_cells (w := w) (B := B) (E := e.E h) z
  rw [← htz] at hz'
  obtain ⟨e', g1, g2, g3⟩ : ∃ e', HRel (World.pushObj w (.cells z.cells t)) B e' (h.alloc f s (newC P t (tzero P t).cells)) ∧ Ext w B e h (World.pushObj w (.cells z.cells t)) B e' (h.alloc f s (newC P t (tzero P t).cells)) ∧
      e'.E (h.alloc f s (newC P t (tzero P t).cells)) (.pt (h.fresh f s) 0 0 0) (.pointer (some ⟨w.heap.size, 0, none⟩)) := by
    unfold newC
    split
    · refine newBt hh f s (tzero P t).cells z.cells t ⟨hz'.1, ?_⟩ hz'.2
      rw [htz]
      exact ofVal_nilOk z
    · exact newBlk hh f s (tzero P t).cells z.cells t hz'.1 hz'.2
  refine ⟨_, e', _, ?_, g1, g2, g3⟩
  simp [Instr.alloc, zeroValue, typeInfo, hi, hz, newVar, newRow, World.pushObj]

theorem box_sound {P : Program} {w : World} {B : Nat → Prop} {e : Env} {h : Hp} (hh : HRel w B e h) {t : TypeId} {a : AV} {v : Value} (hv : R w B (e.E h) a v) (hc : a.cells.all AV.isCell = true) (f s : Nat) :
    ∃ w' e' v', (Instr.box t v).run P w = .ok v' w' ∧ HRel w' B e' (h.alloc f s (.blk a.cells)) ∧ Ext w B e h w' B e' (h.alloc f s (.blk a.cells)) ∧
      e'.E (h.alloc f s (.blk a.cells)) (.pt (h.fresh f s) 0 0 0) v' := by
  obtain ⟨h1, h2, h3⟩ := R_cells hv hc
  obtain ⟨e', g1, g2, g3⟩ := newBlk hh f s a.cells v.cells t h1 h3
  refine ⟨_, e', _, ?_, g1, g2, g3⟩
  simp [Instr.box, newVar, newRow, World.pushObj]

theorem foldl_row : ∀ (xs : List Value) (cells : Array Value) (off k : Nat), (xs.zipIdx k).foldl (fun cs (c, j) => cs.setIfInBounds (off + j) c) cells = rowSet cells (off + k) xs := by
  intro xs
  induction xs with
  | nil => intro cells off k; rfl
  | cons x xs ih => intro cells off k; simp only [List.zipIdx_cons, List.foldl_cons, rowSet]; rw [ih]; rfl

/-- Parts laid into an aggregate. -/
theorem fill_sound {w : World} {B : Nat → Prop} {e : Env} {n : Nat} {st : St} {a : Act} (hr : Rel w B e n st a) (place place' : Nat → Option (Nat × Nat)) (hp' : ∀ i x, place i = some x → place' i = some x) :
    ∀ (parts : List (Nat × Operand)) (cs : List AV) (cells : Array Value) (K : List AV → Prop), cells.size = cs.length →
      (∀ j, j < cs.length → R w B (e.E st.hp) (cs.getD j .undef) (cells.getD j undef)) → fillK place cs st.ev parts K →
      ∃ cs' cells', Instr.fill place' cells (parts.map fun (i, x) => (i, a.eval x)) = some cells' ∧ cells'.size = cs'.length ∧ cs'.length = cs.length ∧
        (∀ j, j < cs'.length → R w B (e.E st.hp) (cs'.getD j .undef) (cells'.getD j undef)) ∧ K cs' := by
  intro parts
  induction parts with
  | nil => intro cs cells K h1 h2 hK; exact ⟨cs, cells, rfl, h1, rfl, h2, hK⟩
  | cons p parts ih =>
    intro cs cells K h1 h2 hK
    obtain ⟨i, x⟩ := p
    simp only [fillK] at hK
    split at hK
    · rename_i off m hp
      obtain ⟨g1, g2, g3, hK⟩ := hK
      obtain ⟨q1, q2, q3⟩ := R_cells (ev_R hr x) g2
      have e1 : ((a.eval x).cells.zipIdx).foldl (fun cs (c, j) => cs.setIfInBounds (off + j) c) cells = rowSet cells off (a.eval x).cells.toList := by
        have := foldl_row (a.eval x).cells.toList cells off 0
        rw [← Array.toList_zipIdx, Array.foldl_toList] at this
        simpa using this
      obtain ⟨cs', cells', r1, r2, r3, r4, r5⟩ := ih (setRange cs off (st.ev x).cells) (rowSet cells off (a.eval x).cells.toList) K (by rw [rowSet_size, setRange_length]; exact h1) (by
        intro j hj
        rw [setRange_length] at hj
        rw [setRange_getD _ _ _ _ (by omega), rowSet_getD _ _ _ _ (by simp; omega)]
        simp only [Array.length_toList, q1]
        by_cases hc : off ≤ j ∧ j < off + (st.ev x).cells.length
        · rw [if_pos hc, if_pos hc]
          have := q3 (j - off) (by omega)
          simpa using this
        · rw [if_neg hc, if_neg hc]; exact h2 j hj) hK
      refine ⟨cs', cells', ?_, r2, by rw [r3, setRange_length], r4, r5⟩
      simp only [List.map_cons, Instr.fill, hp' _ _ hp]
      rw [if_neg (by simp; omega), e1]
      exact r1
    · exact hK.elim

end Go.T
/- Soundness, ninth part: slices: literals, append, parts, length. -/
namespace Go.T
open Go

/-- How a list of elements lies in memory, to be read. -/
def RowAt (w : World) (B : Nat → Prop) (E : AV → Value → Prop) (sz : Nat) (xs : List AV) (a : Option Addr) : Prop :=
  xs ≠ [] → ∃ (b off : Nat) (vs : Nat → Nat → Value), a = some ⟨b, off, none⟩ ∧ (∀ i, (h : i < xs.length) → (xs[i]).cells.length = sz) ∧
      (∀ i j, i < xs.length → j < sz → w.cell? ⟨b, off + (i * sz + j), .none⟩ = some (vs i j)) ∧
      (∀ i j, (h' : i < xs.length) → j < sz → R w B E ((xs[i]).cells.getD j .undef) (vs i j)) ∧ (∀ i j, i < xs.length → j < sz → (vs i j).oneCell' = true)

theorem elems_sound {w : World} {B : Nat → Prop} {e : Env} {h : Hp} (hh : HRel w B e h) {a : AV} {v : Value} (hv : R w B (e.E h) a v) {sz : Nat} {xs : List AV} (hx : elemsOf h a = some (sz, xs)) :
    ∃ p cap, v = .slice p xs.length cap ∧ xs.length ≤ cap ∧ RowAt w B (e.E h) sz xs p := by
  unfold elemsOf at hx
  split at hx
  · injection hx with hx; injection hx with h1 h2; subst h1; subst h2
    obtain ⟨p, cap, rfl, _, hc, hr⟩ := R_l hv
    refine ⟨p, cap, rfl, hc, fun hne => ?_⟩
    obtain ⟨b, off, vs, h1, _, h2⟩ := hr hne
    exact ⟨b, off, vs, h1, h2⟩
  · rename_i L
    unfold elemsC at hx
    split at hx
    · rename_i sz' xs' hcon
      injection hx with hx; injection hx with h1 h2; subst h1; subst h2
      obtain ⟨g1, _, g3⟩ := R_os hv
      have g3 := g3 (by rw [hcon]; trivial)
      have hc := hh.con L g1
      rw [hcon] at hc
      obtain ⟨p, cap, hη, hcap, hsz, hcase⟩ := hc
      rw [hη] at g3
      subst g3
      refine ⟨p, cap, rfl, hcap, fun hne => ?_⟩
      rcases hcase with h0 | ⟨ha, hsp, _, vs, T, hb, hs, hr⟩
      · have := List.length_pos_iff.2 hne; omega
      cases hβ : e.β L with
      | mk b off sp =>
        rw [hβ] at hsp ha hb hs hr
        simp only at hsp
        subst hsp
        refine ⟨b, off, fun i j => vs.getD (off + (i * sz' + j)) undef, ha, hsz, fun i j hi hj => ?_, fun i j hi hj => (hr i j hi hj).1, fun i j hi hj => (hr i j hi hj).2⟩
        refine getD_row hb ?_
        have : (i + 1) * sz' ≤ cap * sz' := Nat.mul_le_mul_right _ (by omega)
        rw [Nat.add_mul] at this
        simp only at hs
        omega
    · cases hx
  · rename_i L sz0 a0 n0
    unfold elemsV at hx
    split at hx
    · rename_i sz' xs' hcon
      split at hx
      · rename_i hcnd
        obtain ⟨rfl, hle⟩ := hcnd
        injection hx with hx; injection hx with h1 h2; subst h1; subst h2
        obtain ⟨g1, _, g3⟩ := R_sl hv
        obtain ⟨p, m, c, q, g4, g5, g6, g7⟩ := g3 (by rw [hcon]; trivial)
        have hc := hh.con L g1
        rw [hcon] at hc
        obtain ⟨p', cap, hη, hcap, hsz, hcase⟩ := hc
        rw [g4] at hη
        injection hη with e1 e2 e3
        subst e1; subst e2; subst e3
        have hl : ((xs'.drop a0).take n0).length = n0 := by simp; omega
        have hg : ∀ i (hi : i < ((xs'.drop a0).take n0).length), ((xs'.drop a0).take n0)[i] = xs'[a0 + i]'(by omega) := by
          intro i hi; simp
        refine ⟨_, c - a0, by rw [hl]; exact g6, by rw [hl]; omega, fun hne => ?_⟩
        have hn0 : 0 < n0 := by have := List.length_pos_iff.2 hne; omega
        rcases hcase with h0 | ⟨ha, hsp, _, vs, T, hb, hs, hr⟩
        · omega
        rw [g7 (by omega), ha]
        cases hβ : e.β L with
        | mk b off sp =>
          rw [hβ] at hsp ha hb hs hr
          simp only at hsp
          subst hsp
          refine ⟨b, off + a0 * sz', fun i j => vs.getD (off + ((a0 + i) * sz' + j)) undef, by simp [addr_add], fun i hi => by rw [hg i hi]; exact hsz _ _, fun i j hi hj => ?_, fun i j hi hj => by rw [hg i hi]; exact (hr (a0 + i) j (by omega) hj).1, fun i j hi hj => (hr (a0 + i) j (by omega) hj).2⟩
          have e1 : off + a0 * sz' + (i * sz' + j) = off + ((a0 + i) * sz' + j) := by rw [Nat.add_mul]; omega
          rw [e1]
          refine getD_row hb ?_
          have : (a0 + i + 1) * sz' ≤ c * sz' := Nat.mul_le_mul_right _ (by omega)
          rw [Nat.add_mul] at this
          simp only at hs
          omega
      · cases hx
    · cases hx
  · cases hx

/-- The cells of such a row, one behind the other. -/
def flatRow (sz n : Nat) (vs : Nat → Nat → Value) : List Value := (List.range (n * sz)).map fun q => vs (q / sz) (q % sz)

theorem flatRow_length (sz n : Nat) (vs : Nat → Nat → Value) : (flatRow sz n vs).length = n * sz := by simp [flatRow]
theorem flatRow_getD (sz n : Nat) (vs : Nat → Nat → Value) (i j : Nat) (hi : i < n) (hj : j < sz) : (flatRow sz n vs).getD (i * sz + j) undef = vs i j := by
  have h1 : i * sz + j < n * sz := by
    have : (i + 1) * sz ≤ n * sz := Nat.mul_le_mul_right _ hi
    rw [Nat.add_mul] at this; omega
  have h2 : (i * sz + j) / sz = i := by
    rw [Nat.mul_comm, Nat.mul_add_div (by omega), Nat.div_eq_of_lt hj]; rfl
  have h3 : (i * sz + j) % sz = j := by
    rw [Nat.mul_comm, Nat.mul_add_mod, Nat.mod_eq_of_lt hj]
  simp [flatRow, h1, h2, h3]

theorem divmod_lt {q n sz : Nat} (h : q < n * sz) : q / sz < n ∧ q % sz < sz := by
  have h0 : 0 < sz := by
    rcases Nat.eq_zero_or_pos sz with h0 | h0
    · subst h0; omega
    · exact h0
  exact ⟨(Nat.div_lt_iff_lt_mul h0).2 h, Nat.mod_lt _ h0⟩

theorem run_firstCells {P : Program} (w : World) (sz n cap b off : Nat) (vs : Nat → Nat → Value)
    (hc : ∀ i j, i < n → j < sz → w.cell? ⟨b, off + (i * sz + j), .none⟩ = some (vs i j)) (m : Nat) (hm : m ≤ n) (len : Nat) :
    (Builtin.firstCells sz m (.slice (some ⟨b, off, none⟩) len cap)).run P w = .ok (flatRow sz m vs).toArray w := by
  unfold Builtin.firstCells
  rw [run_loadCells (P := P) w ⟨b, off, none⟩ (m * sz) (fun q => vs (q / sz) (q % sz)) (fun q hq => by
    rw [addr_add]
    obtain ⟨h1, h2⟩ := divmod_lt hq
    have := hc (q / sz) (q % sz) (by omega) h2
    have e1 : q / sz * sz + q % sz = q := by rw [Nat.mul_comm]; exact Nat.div_add_mod q sz
    rwa [e1] at this)]
  simp [flatRow]

end Go.T
/- Soundness, tenth part: append. -/
namespace Go.T
open Go

/-- The label of a slice lets go of what it holds, and a new one takes the row over. -/
theorem flat_all {sz n : Nat} {vs : Nat → Nat → Value} (h : ∀ i j, i < n → j < sz → (vs i j).oneCell' = true) : ∀ x ∈ flatRow sz n vs, x.oneCell' = true := by
  intro x hx
  simp only [flatRow, List.mem_map, List.mem_range] at hx
  obtain ⟨q, hq, rfl⟩ := hx
  obtain ⟨h1, h2⟩ := divmod_lt hq
  exact h _ _ h1 h2

theorem grow_fits {need cap bytes : Nat} (hlt : cap < need) (hb : need * bytes ≤ 2 ^ 47) : Builtin.nextslicecap need cap * bytes ≤ 2 ^ 48 := growslice_fits hlt (by omega)

/-- What append takes as its second operand: a slice or a string. -/
def UOk (P : Program) (u : TypeId) : Prop := ∃ d, P.underlying u = some d ∧ ∀ k, d ≠ .int k
theorem UOk.slice {P : Program} {u el : TypeId} (h : tk P u = .slice el) : UOk P u := ⟨_, tk_slice h, fun k hk => by cases hk⟩
theorem UOk.string {P : Program} {u : TypeId} (h : tk P u = .string) : UOk P u := by
  unfold tk at h
  cases hd : P.underlying u with
  | none => rw [hd] at h; cases h
  | some d =>
    rw [hd] at h
    refine ⟨d, hd, fun k hk => ?_⟩
    subst hk
    cases h
/-- What append comes to: in room, or in a new row. -/
theorem run_append {P : Program} (w : World) {t u el ty : TypeId} (ht : tk P t = .slice el) (hu : UOk P u) (hel : tok P el = true) (bx : Option Addr) (n cap : Nat)
    (vy : Value) (m : Nat) (hm : ∀ w' : World, (Builtin.lenOf vy).run P w' = .ok m w') (xs ys : List Value)
    (hx : ∀ w' : World, w'.heap = w.heap → (Builtin.firstCells (tsz P el) n (.slice bx n cap)).run P w' = .ok xs.toArray w') (hy : ∀ w' : World, w'.heap = w.heap → (Builtin.firstCells (tsz P el) m vy).run P w' = .ok ys.toArray w')
    (hbytes : (n + m) * tbytes P el ≤ 2 ^ 47) (hn : n + m < 2 ^ 62) (hpos : 0 < tbytes P el) :
    (n + m ≤ cap → ∀ (w' : World), (∀ a, bx = some a → (storeCells (a.add (n * tsz P el)) ys).run P w = .ok () w') → (bx = none → w' = w) →
      (Builtin.append_ #[t, u] ty #[.slice bx n cap, vy]).run P w = .ok (.slice bx (n + m) cap) w') ∧
    (cap < n + m → ∃ (c : Nat) (z : Array Value) (w₁ : World), n + m ≤ c ∧ z.size = (c - (n + m)) * tsz P el ∧ w₁.heap = w.heap ∧ w₁.os = w.os ∧ w₁.tape = w.tape ∧ w₁.output = w.output ∧
      (Builtin.append_ #[t, u] ty #[.slice bx n cap, vy]).run P w = .ok (.slice (some ⟨w.heap.size, 0, none⟩) (n + m) c) (World.pushObj w₁ (.cells ((xs ++ ys).toArray ++ z) el))) := by
  obtain ⟨i, d, z, hi, hud, hz, htz, hs, htin, hby, hz1, hz2⟩ := tok_parts hel
  have htu := tk_slice ht
  obtain ⟨d', huu, hni⟩ := hu
  rw [hs] at hx hy ⊢
  rw [hby] at hbytes hpos
  constructor
  · intro hroom w' hst hw'
    have hy0 := hy w rfl
    cases bx with
    | none =>
      obtain rfl := hw' rfl
      simp [Builtin.append_, run_underlying htu, run_underlying huu, Go.sizeOf, typeInfo, hi, hm, hroom, hy0]
    | some a =>
      have := hst a rfl
      simp [Builtin.append_, run_underlying htu, run_underlying huu, Go.sizeOf, typeInfo, hi, hm, hroom, hy0, this]
  · intro hlt
    have hnr : ¬ n + m ≤ cap := by omega
    have hfit := grow_fits hlt hbytes
    refine ⟨grownCap w (n + m) cap el, Builtin.zeroCells z.cells (grownCap w (n + m) cap el - (n + m)), w.drew, grownCap_ge _ _ _ _, by rw [size_zeroCells, hz2], rfl, rfl, rfl, rfl, ?_⟩
    have hnb : ¬ (i.bytes = 0) := by omega
    have hlt2 : ¬ (Builtin.nextslicecap (n + m) cap * i.bytes > 2 ^ 48) := by omega
    have hx' := hx w.drew rfl
    have hy' := hy w.drew rfl
    have h63' : ¬ (9223372036854775807 < ((n : Int) + (m : Int))) := by omega
    have h48' : ¬ (281474976710656 < Builtin.nextslicecap (n + m) cap * i.bytes) := by omega
    simp [Builtin.append_, run_underlying htu, run_underlying huu, Go.sizeOf, typeInfo, hi, hm, hnr, hnb, zeroValue, hz, newRow, h48', Question.forced, hx', hy', grownCap]
    show w.drew.alloc _ = w.drew.alloc _
    congr 2
    apply Array.ext'
    simp

theorem take_con {h : Hp} {L : Lab} {f s : Nat} {c : Con} {M : Lab} (h1 : M ≠ h.fresh f s) (h2 : M ≠ L) : ((h.set L .none).alloc f s c).con M = h.con M := by
  rw [alloc_con_ne (h := h.set L .none) h1, set_con_ne h2]

/-- A label's row goes over to a new label. -/
theorem HRel.take {w w' : World} {B : Nat → Prop} {e : Env} {h : Hp} (hh : HRel w B e h) {L : Lab} (f s : Nat) (c : Con) (a : Addr) (v : Value) (hk : L.k < h.cnt L.f L.s)
    (hL : (e.has h L ∧ a.block = (e.β L).block) ∨ ((¬ (e.upd (h.fresh f s) a v).has ((h.set L .none).alloc f s c) (h.fresh f s)) ∧ w' = w))
    (hs : w'.heap.size = w.heap.size) (h1 : w'.os = w.os) (h2 : w'.tape = w.tape) (h3 : w'.output = w.output)
    (hw : ∀ b, (e.has h L → b ≠ (e.β L).block) → w'.heap[b]? = w.heap[b]?)
    (hc : Ext w B e h w' B (e.upd (h.fresh f s) a v) ((h.set L .none).alloc f s c) → ConRel w' B (e.upd (h.fresh f s) a v) ((h.set L .none).alloc f s c) (h.fresh f s) c) :
    HRel w' B (e.upd (h.fresh f s) a v) ((h.set L .none).alloc f s c) ∧ Ext w B e h w' B (e.upd (h.fresh f s) a v) ((h.set L .none).alloc f s c) := by
  have hLne : L ≠ h.fresh f s := fresh_ne hk
  have hdead : ((h.set L .none).alloc f s c).con L = .none := by
    rw [alloc_con_ne (h := h.set L .none) hLne, set_con_dead]
  have notL : ∀ M, (e.upd (h.fresh f s) a v).has ((h.set L .none).alloc f s c) M → M ≠ L := by
    intro M hM hE
    have := hM.2
    rw [hE, hdead] at this
    exact this
  have back : ∀ M, M ≠ h.fresh f s → (e.upd (h.fresh f s) a v).has ((h.set L .none).alloc f s c) M → e.has h M := by
    intro M hne hM
    have hML := notL M hM
    obtain ⟨g1, g2⟩ := hM
    rcases alloc_lt (h := h.set L .none) g1 with g | g
    · exact absurd g hne
    · refine ⟨g, ?_⟩
      rw [take_con hne hML] at g2
      simp only [Env.upd, if_neg hne] at g2
      exact g2
  have xt : Ext w B e h w' B (e.upd (h.fresh f s) a v) ((h.set L .none).alloc f s c) :=
    { size := by omega
      os := h1
      tape := h2
      output := h3
      bsub := fun _ h => h
      bnew := fun _ h => .inl h
      keep := fun b _ ho => hw b (fun hL' hE => ho L hL' hE.symm)
      onew := fun M hM => by
        by_cases hE : M = h.fresh f s
        · subst hE
          rcases hL with ⟨hL1, hL2⟩ | ⟨hL1, _⟩
          · exact .inl ⟨L, hL1, by simp [Env.upd, hL2]⟩
          · exact absurd hM hL1
        · exact .inl ⟨M, back M hE hM, by simp [Env.upd, hE]⟩
      cnt := fun g t => alloc_cnt_le (h := h.set L .none) g t
      env := fun M hM => by have := fresh_ne (f := f) (s := s) hM; simp [Env.upd, this]
      live := fun M hM hl => by
        by_cases hE : M = L
        · rw [hE, hdead] at hl; exact hl.elim
        · rwa [take_con (fresh_ne hM) hE] at hl }
  refine ⟨⟨fun M hM => ?_, fun M M' hM hM' hb => ?_, fun b hb => by rw [hs]; exact hh.bnd b hb, hh.glbX xt⟩, xt⟩
  · by_cases hE : M = h.fresh f s
    · subst hE
      have := hc xt
      rwa [show ((h.set L .none).alloc f s c).con (h.fresh f s) = c from alloc_con_eq (h := h.set L .none)]
    · by_cases hE2 : M = L
      · subst hE2; rw [hdead]; trivial
      · have hk' := (alloc_lt (h := h.set L .none) hM).resolve_left hE
        rw [take_con hE hE2]
        have hcon := hh.con M hk'
        by_cases hhas : e.has h M
        · refine ConRel.ext hh xt hk' (hw _ fun hL' hb => hE2 (hh.inj M L hhas hL' hb)) (fun h => h) hcon
        · cases hcc : h.con M with
          | none => trivial
          | blk cs => exact absurd ⟨hk', by rw [hcc]; trivial⟩ hhas
          | mp es ck => exact absurd ⟨hk', by rw [hcc]; trivial⟩ hhas
          | bt T cs => exact absurd ⟨hk', by rw [hcc]; trivial⟩ hhas
          | ba T cs => exact absurd ⟨hk', by rw [hcc]; trivial⟩ hhas
          | gl cs => rw [hcc] at hcon; exact ConRel.gl_ext hh xt hk' hcon
          | lp sl n ps asg bd st => exact absurd ⟨hk', by rw [hcc]; trivial⟩ hhas
          | arr sz xs =>
            rw [hcc] at hcon
            obtain ⟨a', cap, g1, g2, g3, g4⟩ := hcon
            refine ⟨a', cap, by rw [(xt.env M hk').2]; exact g1, g2, g3, .inl ?_⟩
            apply Classical.byContradiction
            intro hne
            exact hhas ⟨hk', by rw [hcc]; exact ⟨_, _, _, g1, hne⟩⟩
  · by_cases hE : M = h.fresh f s
    · by_cases hE' : M' = h.fresh f s
      · rw [hE, hE']
      · exfalso
        rcases hL with ⟨hL1, hL2⟩ | ⟨hL1, _⟩
        · simp only [Env.upd, hE, if_true, if_neg hE', hL2] at hb
          exact notL M' hM' (hh.inj L M' hL1 (back M' hE' hM') hb).symm
        · exact hL1 (hE ▸ hM)
    · by_cases hE' : M' = h.fresh f s
      · exfalso
        rcases hL with ⟨hL1, hL2⟩ | ⟨hL1, _⟩
        · simp only [Env.upd, hE', if_true, if_neg hE, hL2] at hb
          exact notL M hM (hh.inj M L (back M hE hM) hL1 hb)
        · exact hL1 (hE' ▸ hM')
      · simp only [Env.upd, if_neg hE, if_neg hE'] at hb
        exact hh.inj M M' (back M hE hM) (back M' hE' hM') hb

end Go.T
/- Soundness, eleventh part: append, made whole. -/
namespace Go.T
open Go

theorem cell_heap {w w' : World} (h : w'.heap = w.heap) (a : Addr) : w'.cell? a = w.cell? a := by simp [World.cell?, h]

theorem HRel.heapEq {w w' : World} {B : Nat → Prop} {e : Env} {h : Hp} (hh : HRel w B e h) (hw : w'.heap = w.heap) (h1 : w'.os = w.os) (h2 : w'.tape = w.tape) (h3 : w'.output = w.output) :
    HRel w' B e h ∧ Ext w B e h w' B e h := by
  have x : Ext w B e h w' B e h := ⟨by rw [hw]; exact Nat.le_refl _, h1, h2, h3, fun _ h => h, fun _ h => .inl h, fun _ _ _ => by rw [hw], fun L hL => .inl ⟨L, hL, rfl⟩, fun _ _ => Nat.le_refl _, fun _ _ => ⟨rfl, rfl⟩, fun _ _ h => h⟩
  exact ⟨⟨fun L hk => ConRel.ext hh x hk (by rw [hw]) (fun h => h) (hh.con L hk), hh.inj, fun b hb => by rw [hw]; exact hh.bnd b hb, hh.glb⟩, x⟩

/-- An empty slice is taken for one of the call's own. -/
theorem HRel.virt {w : World} {B : Nat → Prop} {e : Env} {h : Hp} (hh : HRel w B e h) (f s sz : Nat) (p : Option Addr) :
    HRel w B (e.upd (h.fresh f s) ⟨0, 0, none⟩ (.slice p 0 0)) (h.alloc f s (.arr sz [])) ∧ Ext w B e h w B (e.upd (h.fresh f s) ⟨0, 0, none⟩ (.slice p 0 0)) (h.alloc f s (.arr sz [])) := by
  have hno : ¬ (e.upd (h.fresh f s) ⟨0, 0, none⟩ (.slice p 0 0)).has (h.alloc f s (.arr sz [])) (h.fresh f s) := by
    rintro ⟨_, h2⟩
    rw [alloc_con_eq] at h2
    obtain ⟨a, n, c, h3, h4⟩ := h2
    simp only [Env.upd, if_true] at h3
    injection h3 with _ _ h3
    exact h4 h3.symm
  have x : Ext w B e h w B (e.upd (h.fresh f s) ⟨0, 0, none⟩ (.slice p 0 0)) (h.alloc f s (.arr sz [])) :=
    { size := Nat.le_refl _, os := rfl, tape := rfl, output := rfl, bsub := fun _ h => h, bnew := fun _ h => .inl h, keep := fun _ _ _ => rfl
      onew := fun L hL => by
        by_cases hE : L = h.fresh f s
        · exact absurd (hE ▸ hL) hno
        · exact .inl ⟨L, has_alloc_ne hE hL, by simp [Env.upd, hE]⟩
      cnt := alloc_cnt_le
      env := fun L hk => by have := fresh_ne (f := f) (s := s) hk; simp [Env.upd, this]
      live := fun L hk hl => by rwa [alloc_con_ne (fresh_ne hk)] at hl }
  refine ⟨⟨fun L hk => ?_, fun L L' hL hL' hb => ?_, hh.bnd, hh.glbX x⟩, x⟩
  · by_cases hE : L = h.fresh f s
    · subst hE
      rw [alloc_con_eq]
      exact ⟨p, 0, by simp [Env.upd], Nat.le_refl _, fun i hi => by simp at hi, .inl rfl⟩
    · have hk' := (alloc_lt hk).resolve_left hE
      rw [alloc_con_ne hE]
      exact ConRel.ext hh x hk' rfl (fun h => h) (hh.con L hk')
  · have hE : L ≠ h.fresh f s := fun hE => hno (hE ▸ hL)
    have hE' : L' ≠ h.fresh f s := fun hE => hno (hE ▸ hL')
    simp only [Env.upd, if_neg hE, if_neg hE'] at hb
    exact hh.inj L L' (has_alloc_ne hE hL) (has_alloc_ne hE' hL') hb

theorem firstCells_row {P : Program} {w : World} {B : Nat → Prop} {E : AV → Value → Prop} {sz : Nat} {xs : List AV} {p : Option Addr} (hr : RowAt w B E sz xs p) (cap : Nat) :
    ∃ vs : Nat → Nat → Value, (∀ w' : World, w'.heap = w.heap → (Builtin.firstCells sz xs.length (.slice p xs.length cap)).run P w' = .ok (flatRow sz xs.length vs).toArray w') ∧
      (∀ i, (h : i < xs.length) → (xs[i]).cells.length = sz) ∧
      (∀ i j, (h' : i < xs.length) → j < sz → R w B E ((xs[i]).cells.getD j .undef) (vs i j)) ∧ (∀ i j, i < xs.length → j < sz → (vs i j).oneCell' = true) := by
  by_cases hne : xs = []
  · subst hne
    refine ⟨fun _ _ => undef, fun w' _ => ?_, fun i h => by simp at h, fun i j h => by simp at h, fun i j h => by simp at h⟩
    cases p with
    | none => simp [Builtin.firstCells, flatRow]
    | some a =>
      have := run_loadCells (P := P) w' a 0 (fun _ => undef) (fun j hj => by omega)
      simpa [Builtin.firstCells, flatRow] using this
  · obtain ⟨b, off, vs, rfl, h1, h2, h3, h4⟩ := hr hne
    refine ⟨vs, fun w' hw' => ?_, h1, h3, h4⟩
    exact run_firstCells w' sz xs.length cap b off vs (fun i j hi hj => (cell_heap hw' _).trans (h2 i j hi hj)) xs.length (Nat.le_refl _) _

/-- A new row that holds two lists' cells one behind the other. -/
theorem newArr {w : World} {B : Nat → Prop} {e : Env} {h : Hp} (hh : HRel w B e h) (f s sz : Nat) (xs ys : List AV) (vs us : Nat → Nat → Value) (z : Array Value) (T : TypeId) (c : Nat)
    (hx1 : ∀ i, (h : i < xs.length) → (xs[i]).cells.length = sz) (hy1 : ∀ i, (h : i < ys.length) → (ys[i]).cells.length = sz)
    (hx : ∀ i j, (h' : i < xs.length) → j < sz → R w B (e.E h) ((xs[i]).cells.getD j .undef) (vs i j)) (hxo : ∀ i j, i < xs.length → j < sz → (vs i j).oneCell' = true)
    (hy : ∀ i j, (h' : i < ys.length) → j < sz → R w B (e.E h) ((ys[i]).cells.getD j .undef) (us i j)) (hyo : ∀ i j, i < ys.length → j < sz → (us i j).oneCell' = true)
    (hc : xs.length + ys.length ≤ c) (hz : z.size = (c - (xs.length + ys.length)) * sz) :
    ∃ e', HRel (World.pushObj w (.cells ((flatRow sz xs.length vs ++ flatRow sz ys.length us).toArray ++ z) T)) B e' (h.alloc f s (.arr sz (xs ++ ys))) ∧
      Ext w B e h (World.pushObj w (.cells ((flatRow sz xs.length vs ++ flatRow sz ys.length us).toArray ++ z) T)) B e' (h.alloc f s (.arr sz (xs ++ ys))) ∧
      e'.E (h.alloc f s (.arr sz (xs ++ ys))) (.os (h.fresh f s)) (.slice (some ⟨w.heap.size, 0, none⟩) (xs.length + ys.length) c) := by
  let o : Obj := .cells ((flatRow sz xs.length vs ++ flatRow sz ys.length us).toArray ++ z) T
  let sv : Value := .slice (some ⟨w.heap.size, 0, none⟩) (xs.length + ys.length) c
  let e' := e.upd (h.fresh f s) ⟨w.heap.size, 0, none⟩ sv
  have xt : Ext w B e h (World.pushObj w o) B e' (h.alloc f s (.arr sz (xs ++ ys))) :=
    Ext.alloc f s _ o _ _ _ rfl rfl rfl rfl (fun _ h => h) (fun _ h => .inl h) rfl
  have hβ : e'.β (h.fresh f s) = ⟨w.heap.size, 0, none⟩ := by simp [e', Env.upd]
  have hη : e'.η (h.fresh f s) = sv := by simp [e', Env.upd]
  refine ⟨e', ?_, xt, alloc_fresh_lt, ⟨_, _, _, rfl⟩, fun _ => by rw [hη]⟩
  refine HRel.alloc hh f s _ o _ _ _ rfl rfl rfl rfl (fun _ h => h) (fun _ h => .inl h) rfl ?_
  show ConRel _ B e' _ _ _
  refine ⟨some ⟨w.heap.size, 0, none⟩, c, by rw [hη, List.length_append], by rw [List.length_append]; exact hc, ?_, .inr ⟨by rw [hβ], by rw [hβ], ?_, _, T, by rw [hβ]; show (w.heap.push _)[w.heap.size]? = _; simp; rfl, ?_, ?_⟩⟩
  · intro i hi
    rw [List.getElem_append]
    split
    · exact hx1 _ _
    · exact hy1 _ _
  · rw [hβ]; intro hb; have := hh.bnd _ hb; simp at this
  · rw [hβ]
    simp only [Nat.zero_add, Array.size_append, List.size_toArray, List.length_append, flatRow_length, hz, ← Nat.add_mul]
    exact Nat.mul_le_mul_right _ (by omega)
  · intro i j hi hj
    rw [List.length_append] at hi
    rw [hβ]
    simp only [Nat.zero_add]
    have e0 : i * sz + j < (xs.length + ys.length) * sz := by
      have : (i + 1) * sz ≤ (xs.length + ys.length) * sz := Nat.mul_le_mul_right _ hi
      rw [Nat.add_mul] at this; omega
    have e1 : ((flatRow sz xs.length vs ++ flatRow sz ys.length us).toArray ++ z).getD (i * sz + j) undef = if i < xs.length then vs i j else us (i - xs.length) j := by
      have l1 := flatRow_length sz xs.length vs
      have l2 := flatRow_length sz ys.length us
      rw [Nat.add_mul] at e0
      have : ((flatRow sz xs.length vs ++ flatRow sz ys.length us).toArray ++ z).getD (i * sz + j) undef = (flatRow sz xs.length vs ++ flatRow sz ys.length us).getD (i * sz + j) undef := by
        simp only [Array.getD_eq_getD_getElem?, List.getD_eq_getElem?_getD]
        rw [Array.getElem?_append_left (by simp; omega)]
        simp
      rw [this]
      split
      · rename_i hlt
        have : i * sz + j < (flatRow sz xs.length vs).length := by
          rw [l1]
          have : (i + 1) * sz ≤ xs.length * sz := Nat.mul_le_mul_right _ hlt
          rw [Nat.add_mul] at this; omega
        rw [List.getD_eq_getElem?_getD, List.getElem?_append_left this, ← List.getD_eq_getElem?_getD]
        exact flatRow_getD sz _ vs i j hlt hj
      · rename_i hge
        have hge' : xs.length * sz ≤ i * sz := Nat.mul_le_mul_right _ (by omega)
        rw [List.getD_eq_getElem?_getD, List.getElem?_append_right (by omega), ← List.getD_eq_getElem?_getD, l1]
        have : i * sz + j - xs.length * sz = (i - xs.length) * sz + j := by rw [Nat.sub_mul]; omega
        rw [this]
        exact flatRow_getD sz _ us _ j (by omega) hj
    rw [e1, List.getElem_append]
    split
    · rename_i hlt
      exact ⟨(hx i j hlt hj).ext hh xt, hxo i j hlt hj⟩
    · exact ⟨(hy _ j (by omega) hj).ext hh xt, hyo _ j (by omega) hj⟩

/-- What is appended: elements of sz cells each, read out of a slice or a string. -/
def SrcAt (P : Program) (w : World) (B : Nat → Prop) (E : AV → Value → Prop) (sz : Nat) (ys : List AV) (vy : Value) : Prop :=
  (∀ w' : World, (Builtin.lenOf vy).run P w' = .ok ys.length w') ∧ ∃ us : Nat → Nat → Value, (∀ w' : World, w'.heap = w.heap → (Builtin.firstCells sz ys.length vy).run P w' = .ok (flatRow sz ys.length us).toArray w') ∧
    (∀ i, (h : i < ys.length) → (ys[i]).cells.length = sz) ∧
    (∀ i j, (h' : i < ys.length) → j < sz → R w B E ((ys[i]).cells.getD j .undef) (us i j)) ∧ (∀ i j, i < ys.length → j < sz → (us i j).oneCell' = true)
theorem SrcAt.row {P : Program} {w : World} {B : Nat → Prop} {E : AV → Value → Prop} {sz : Nat} {ys : List AV} {p : Option Addr} (hr : RowAt w B E sz ys p) (cap : Nat) : SrcAt P w B E sz ys (.slice p ys.length cap) :=
  ⟨fun _ => rfl, firstCells_row hr cap⟩
theorem SrcAt.str {P : Program} {w : World} {B : Nat → Prop} {E : AV → Value → Prop} (s : ByteArray) : SrcAt P w B E 1 (bytesA s) (.string s) := by
  have hl : (bytesA s).length = s.size := by simp [bytesA]
  refine ⟨fun w' => by rw [hl]; rfl, fun i _ => .int .u8 ((s.data.toList.getD i 0).toNat), fun w' _ => ?_, fun i h => ?_, fun i j h hj => ?_, fun i j _ _ => rfl⟩
  · rw [hl]
    have h1 : s.extract 0 s.size = s := by simp
    have h2 : (flatRow 1 s.size fun i _ => Value.int .u8 ((s.data.toList.getD i 0).toNat)).toArray = s.data.map (fun b => Value.int .u8 b.toNat) := by
      apply Array.ext
      · simp [flatRow]
      · intro i h1 h2
        have hi : i < s.data.size := by simpa using h2
        simp [flatRow]
        rw [Array.getElem?_eq_getElem hi]; rfl
    simp only [Builtin.firstCells, h1, h2]
    rfl
  · simp [bytesA, AV.cells]
  · have : j = 0 := by omega
    subst this
    have hi : i < s.data.toList.length := by simpa [bytesA] using h
    simp only [bytesA, List.getElem_map, AV.cells, List.getD_cons_zero]
    rw [List.getD_eq_getElem?_getD, List.getElem?_eq_getElem hi]
    exact .int _ _
end Go.T
/- Soundness, twelfth part: append is sound. -/
namespace Go.T
open Go

/-- append to a part of an own slice, from element a0 on, n0 elements: what lies behind it is given up. -/
theorem appendOwn_sound {P : Program} {w : World} {B : Nat → Prop} {e : Env} {h : Hp} (hh : HRel w B e h) {t u el ty : TypeId} (ht : tk P t = .slice el) (hu : UOk P u) (hel : tok P el = true)
    {L : Lab} {xs0 xs ys : List AV} {px0 px : Option Addr} {vy : Value} {a0 cx0 cx : Nat} (hk : L.k < h.cnt L.f L.s) (hcon : h.con L = .arr (tsz P el) xs0) (hxs : xs = (xs0.drop a0).take xs.length) (hle0 : a0 + xs.length ≤ xs0.length)
    (hη : e.η L = .slice px0 xs0.length cx0) (hcx : cx = cx0 - a0) (hpx : a0 < cx0 → px = px0.map (·.add (a0 * tsz P el)))
    (hrowx : RowAt w B (e.E h) (tsz P el) xs px) (hrowy : SrcAt P w B (e.E h) (tsz P el) ys vy) (f s : Nat) {K : AV → Hp → Prop}
    (hb : (xs.length + ys.length) * tbytes P el ≤ 2 ^ 47) (hn : xs.length + ys.length < 2 ^ 62) (hpos : 0 < tbytes P el) (hK : K (.os (h.fresh f s)) ((h.set L .none).alloc f s (.arr (tsz P el) (xs ++ ys)))) :
    ∃ w' v h' e' av, (Builtin.append_ #[t, u] ty #[.slice px xs.length cx, vy]).run P w = .ok v w' ∧ HRel w' B e' h' ∧ Ext w B e h w' B e' h' ∧ R w' B (e'.E h') av v ∧ K av h' := by
  obtain ⟨hlen, us, fy, hy1, hy2, hy3⟩ := hrowy
  obtain ⟨vs, fx, hx1, hx2, hx3⟩ := firstCells_row (P := P) hrowx cx
  obtain ⟨g1, g2⟩ := run_append (ty := ty) w ht hu hel px xs.length cx vy ys.length hlen _ _ fx fy hb hn hpos
  have hc := hh.con L hk
  rw [hcon] at hc
  obtain ⟨a', cap, hη', hcap, hsz, hcase⟩ := hc
  rw [hη] at hη'
  injection hη' with e1 e2 e3
  subst e1; subst e3
  have empty : xs.length + ys.length ≤ cx → cx = 0 → ∃ w' v h' e' av, (Builtin.append_ #[t, u] ty #[.slice px xs.length cx, vy]).run P w = .ok v w' ∧ HRel w' B e' h' ∧ Ext w B e h w' B e' h' ∧ R w' B (e'.E h') av v ∧ K av h' := by
    intro hroom hc0
    have hxe : xs = [] := List.eq_nil_of_length_eq_zero (by omega)
    have hye : ys = [] := List.eq_nil_of_length_eq_zero (by omega)
    subst hxe; subst hye; subst hc0
    have := HRel.take (w := w) (w' := w) hh f s (.arr (tsz P el) []) ⟨0, 0, none⟩ (.slice px 0 0) hk (.inr ⟨by
        rintro ⟨_, h2⟩
        rw [show ((h.set L .none).alloc f s (.arr (tsz P el) [])).con (h.fresh f s) = .arr (tsz P el) [] from alloc_con_eq (h := h.set L .none)] at h2
        obtain ⟨a, n, c, h3, h4⟩ := h2
        simp only [Env.upd, if_true] at h3
        injection h3 with _ _ h3
        exact h4 h3.symm, rfl⟩) rfl rfl rfl rfl (fun _ _ => rfl) (fun _ => ⟨px, 0, by simp [Env.upd], Nat.le_refl _, fun i hi => by simp at hi, .inl rfl⟩)
    refine ⟨w, _, _, _, .os (h.fresh f s), g1 hroom w (fun a _ => by simp [storeCells, flatRow]) (fun _ => rfl), this.1, this.2, .ref _ _ ⟨alloc_fresh_lt (h := h.set L .none), ⟨_, _, _, rfl⟩, fun _ => by simp [Env.upd]⟩, hK⟩
  by_cases hroom : xs.length + ys.length ≤ cx
  · clear g2
    by_cases hc0 : cx = 0
    · exact empty hroom hc0
    rcases hcase with h0 | ⟨ha, hsp, hnb, cur, T, hcur, hcs, hcr⟩
    · omega
    · -- in place
      have hlt : (e.β L).block < w.heap.size := by
        rcases Nat.lt_or_ge (e.β L).block w.heap.size with h | h
        · exact h
        · simp [Array.getElem?_eq_none h] at hcur
      cases hβ : e.β L with
      | mk b off0 sp =>
      rw [hβ] at hsp ha hnb hcur hcs hcr hlt
      simp only at hsp hnb hcur hcs hcr hlt
      subst hsp
      have hpx := hpx (by omega)
      rw [ha] at hpx
      simp only [Option.map_some, addr_add] at hpx
      obtain ⟨off, hoff⟩ : ∃ off, off0 + a0 * tsz P el = off := ⟨_, rfl⟩
      rw [hoff] at hpx
      have hL : e.has h L := ⟨hk, by rw [hcon]; exact ⟨_, _, _, hη, by omega⟩⟩
      have hfl := flatRow_length (tsz P el) ys.length us
      have hfit : (xs.length + ys.length) * tsz P el ≤ cx * tsz P el := Nat.mul_le_mul_right _ hroom
      rw [Nat.add_mul] at hfit
      have hcs : off + cx * tsz P el ≤ cur.size := by
        have : (a0 + cx) * tsz P el = cx0 * tsz P el := by congr 1; omega
        rw [Nat.add_mul] at this; omega
      have hcr : ∀ i j, (hi : i < xs.length) → j < tsz P el → R w B (e.E h) ((xs[i]).cells.getD j .undef) (cur.getD (off + (i * tsz P el + j)) undef) ∧ (cur.getD (off + (i * tsz P el + j)) undef).oneCell' = true := fun i j hi hj => by
        have h1 := hcr (a0 + i) j (by omega) hj
        have h2 : xs[i] = xs0[a0 + i]'(by omega) := by
          have : xs[i] = ((xs0.drop a0).take xs.length)[i]'(by rw [← hxs]; exact hi) := by congr 1
          rw [this]; simp
        have h3 : off0 + ((a0 + i) * tsz P el + j) = off + (i * tsz P el + j) := by rw [Nat.add_mul]; omega
        rw [h3] at h1
        rw [h2]; exact h1
      have hst := run_storeCells (P := P) (flatRow (tsz P el) ys.length us) w b (off + xs.length * tsz P el) 0 cur T hcur (flat_all hy3) (by rw [hfl]; omega)
      let w' := World.row w b (rowSet cur (off + xs.length * tsz P el) (flatRow (tsz P el) ys.length us)) T
      have hs' : w'.heap.size = w.heap.size := by simp [w', World.row]
      let sv : Value := .slice px (xs.length + ys.length) cx
      have main := HRel.take (w := w) (w' := w') hh f s (.arr (tsz P el) (xs ++ ys)) ⟨b, off, none⟩ sv hk (.inl ⟨hL, by rw [hβ]⟩) hs' rfl rfl rfl
        (fun k hk' => World.row_other w b k _ T (by have := hk' hL; rwa [hβ] at this)) (fun xt => by
          have hβ' : (e.upd (h.fresh f s) ⟨b, off, none⟩ sv).β (h.fresh f s) = ⟨b, off, none⟩ := by simp [Env.upd]
          refine ⟨px, cx, by simp [Env.upd, sv], by rw [List.length_append]; exact hroom, ?_, .inr ⟨by rw [hβ']; exact hpx, by rw [hβ'], by rw [hβ']; exact hnb, _, T, by rw [hβ']; exact World.row_heap w b _ T hlt, by rw [hβ', rowSet_size]; exact hcs, ?_⟩⟩
          · intro i hi
            rw [List.getElem_append]
            split
            · exact hx1 _ _
            · exact hy1 _ _
          · intro i j hi hj
            rw [List.length_append] at hi
            rw [hβ']
            simp only
            have hij : i * tsz P el + j < (xs.length + ys.length) * tsz P el := by
              have : (i + 1) * tsz P el ≤ (xs.length + ys.length) * tsz P el := Nat.mul_le_mul_right _ hi
              rw [Nat.add_mul] at this; omega
            rw [Nat.add_mul] at hij
            rw [rowSet_getD _ _ _ _ (by rw [hfl]; omega), hfl, List.getElem_append]
            split
            · rename_i hlt'
              have : (i + 1) * tsz P el ≤ xs.length * tsz P el := Nat.mul_le_mul_right _ hlt'
              rw [Nat.add_mul] at this
              rw [if_neg (by omega)]
              exact ⟨(hcr i j hlt' hj).1.ext hh xt, (hcr i j hlt' hj).2⟩
            · rename_i hge
              have hge' : xs.length * tsz P el ≤ i * tsz P el := Nat.mul_le_mul_right _ (by omega)
              rw [if_pos (by omega)]
              have : off + (i * tsz P el + j) - (off + xs.length * tsz P el) = (i - xs.length) * tsz P el + j := by rw [Nat.sub_mul]; omega
              rw [this, flatRow_getD _ _ us _ j (by omega) hj]
              exact ⟨(hy2 _ j (by omega) hj).ext hh xt, hy3 _ j (by omega) hj⟩)
      refine ⟨w', _, _, _, .os (h.fresh f s), g1 hroom w' (fun a ha' => ?_) (fun hn' => ?_), main.1, main.2, .ref _ _ ⟨alloc_fresh_lt (h := h.set L .none), ⟨_, _, _, rfl⟩, fun _ => by simp [Env.upd, sv]⟩, hK⟩
      · rw [hpx] at ha'
        injection ha' with ha'
        subst ha'
        rw [addr_add]
        simpa using hst
      · rw [hpx] at hn'; cases hn'
  · -- a new row
    obtain ⟨c, z, w₁, q1, q2, q3, q4, q5, q6, q7⟩ := g2 (by omega)
    obtain ⟨r1, r2⟩ := HRel.heapEq hh q3 q4 q5 q6
    have hdrop : ∀ M, (h.set L .none).con M = .none ∨ (h.set L .none).con M = h.con M := fun M => by
      by_cases hE : M = L
      · left; rw [hE, set_con_dead]
      · right; exact set_con_ne hE
    have d1 : HRel w₁ B e (h.set L .none) := HRel.drop r1 hdrop rfl
    have d2 : Ext w₁ B e h w₁ B e (h.set L .none) := Ext.drop hdrop rfl
    have r3 := r2.trans d2
    obtain ⟨e', p1, p2, p3⟩ := newArr (w := w₁) d1 f s (tsz P el) xs ys vs us z el c hx1 hy1 (fun i j hi hj => (hx2 i j hi hj).ext hh r3) hx3 (fun i j hi hj => (hy2 i j hi hj).ext hh r3) hy3 q1 q2
    rw [q3] at p3
    exact ⟨_, _, _, e', .os (h.fresh f s), q7, p1, r3.trans p2, .ref _ _ p3, hK⟩
theorem appendX_sound {P : Program} {w : World} {B : Nat → Prop} {e : Env} {h : Hp} (hh : HRel w B e h) {t u el ty : TypeId} (ht : tk P t = .slice el) (hu : UOk P u) (hel : tok P el = true)
    {x : AV} {ys : List AV} {vx vy : Value} (hx : R w B (e.E h) x vx) (hrowy : SrcAt P w B (e.E h) (tsz P el) ys vy) (f s : Nat) {K : AV → Hp → Prop} (hK : appendX h f s (tsz P el) (tbytes P el) x ys K) :
    ∃ w' v h' e' av, (Builtin.append_ #[t, u] ty #[vx, vy]).run P w = .ok v w' ∧ HRel w' B e' h' ∧ Ext w B e h w' B e' h' ∧ R w' B (e'.E h') av v ∧ K av h' := by
  have hrowy' := hrowy
  obtain ⟨hlen, us, fy, hy1, hy2, hy3⟩ := hrowy
  unfold appendX at hK
  split at hK
  · -- a literal empty slice
    obtain ⟨hb, hn, hpos, hK⟩ := hK
    obtain ⟨px, cx, rfl, hcx, _⟩ := R_l hx
    have hcx := hcx rfl
    simp only [List.length_nil] at hcx
    subst hcx
    have hrowx : RowAt w B (e.E h) (tsz P el) [] px := fun hne => absurd rfl hne
    obtain ⟨vs, fx, hx1, hx2, hx3⟩ := firstCells_row (P := P) hrowx 0
    obtain ⟨g1, g2⟩ := run_append (ty := ty) w ht hu hel px 0 0 vy ys.length hlen _ _ fx fy (by simpa using hb) (by simpa using hn) hpos
    by_cases hys : ys = []
    · subst hys
      obtain ⟨q1, q2⟩ := HRel.virt hh f s (tsz P el) px
      refine ⟨w, _, _, _, .os (h.fresh f s), g1 (by simp) w (fun a _ => by simp [storeCells, flatRow]) (fun _ => rfl), q1, q2, .ref _ _ ⟨alloc_fresh_lt, ⟨_, _, _, rfl⟩, fun _ => by simp [Env.upd]⟩, hK⟩
    · have hl : 0 < 0 + ys.length := by have := List.length_pos_iff.2 hys; omega
      obtain ⟨c, z, w₁, q1, q2, q3, q4, q5, q6, q7⟩ := g2 hl
      obtain ⟨r1, r2⟩ := HRel.heapEq hh q3 q4 q5 q6
      obtain ⟨e', p1, p2, p3⟩ := newArr (w := w₁) r1 f s (tsz P el) [] ys vs us z el c hx1 hy1 (fun i j hi => by simp at hi) (fun i j hi => by simp at hi) (fun i j hi hj => (hy2 i j hi hj).ext hh r2) hy3 (by simpa using q1) (by simpa using q2)
      rw [q3] at p3
      refine ⟨_, _, _, e', .os (h.fresh f s), q7, p1, r2.trans p2, .ref _ _ p3, hK⟩
  · rename_i L
    unfold appendC at hK
    split at hK
    · rename_i sz' xs hcon
      obtain ⟨rfl, hb, hn, hpos, hK⟩ := hK
      obtain ⟨px, cx, rfl, hcapx, hrowx⟩ := elems_sound hh hx (a := .os L) (sz := tsz P el) (xs := xs) (by simp [elemsOf, hcon, elemsC])
      obtain ⟨hk, _, hη'⟩ := R_os hx
      exact appendOwn_sound (a0 := 0) hh ht hu hel hk hcon (by simp) (by simp) (hη' (by rw [hcon]; trivial)).symm (by simp) (fun _ => by cases px <;> simp [Addr.add]) hrowx hrowy' f s hb hn hpos hK
    · exact hK.elim
  · rename_i L sz0 a0 n0
    unfold appendW at hK
    split at hK
    · rename_i sz' xs0 hcon
      obtain ⟨rfl, rfl, hle, hb, hn, hpos, hK⟩ := hK
      obtain ⟨px, cx, hvx, hcapx, hrowx⟩ := elems_sound hh hx (a := .sl L (tsz P el) a0 n0) (sz := tsz P el) (xs := (xs0.drop a0).take n0) (by simp [elemsOf, hcon, elemsV, hle])
      have hl : ((xs0.drop a0).take n0).length = n0 := by simp; omega
      obtain ⟨hk, _, hη'⟩ := R_sl hx
      obtain ⟨p, m, c, q, g4, g5, g6, g7⟩ := hη' (by rw [hcon]; trivial)
      have hc := hh.con L hk
      rw [hcon] at hc
      obtain ⟨a', cap, hη, _⟩ := hc
      rw [g4] at hη
      injection hη with e1 e2 e3
      subst e1; subst e2; subst e3
      rw [g6] at hvx
      injection hvx with q1 q2 q3
      subst g6
      have := appendOwn_sound (a0 := a0) (ty := ty) (px := q) (cx := c - a0) hh ht hu hel hk hcon (xs := (xs0.drop a0).take n0) (by rw [hl]) (by rw [hl]; exact hle) g4 rfl g7 (by rw [q1]; exact hrowx) hrowy' f s (by rw [hl]; exact hb) (by rw [hl]; exact hn) hpos hK
      rw [hl] at this
      exact this
    · exact hK.elim
  · exact hK.elim
theorem appendK_sound {P : Program} {w : World} {B : Nat → Prop} {e : Env} {h : Hp} (hh : HRel w B e h) {t u el el' ty : TypeId} (ht : tk P t = .slice el) (hu : tk P u = .slice el') (hel : tok P el = true)
    {x y : AV} {vx vy : Value} (hx : R w B (e.E h) x vx) (hy : R w B (e.E h) y vy) (f s : Nat) {K : AV → Hp → Prop} (hK : appendK h f s (tsz P el) (tbytes P el) x y K) :
    ∃ w' v h' e' av, (Builtin.append_ #[t, u] ty #[vx, vy]).run P w = .ok v w' ∧ HRel w' B e' h' ∧ Ext w B e h w' B e' h' ∧ R w' B (e'.E h') av v ∧ K av h' := by
  unfold appendK appendY at hK
  split at hK
  · rename_i szy ys hey
    obtain ⟨hszy, hK⟩ := hK
    obtain ⟨py, cy, rfl, _, hrowy⟩ := elems_sound hh hy hey
    have hrowy : RowAt w B (e.E h) (tsz P el) ys py := by
      intro hne; have := hrowy hne; rwa [hszy hne] at this
    exact appendX_sound hh ht (UOk.slice hu) hel hx (SrcAt.row hrowy cy) f s hK
  · exact hK.elim
theorem appendS_sound {P : Program} {w : World} {B : Nat → Prop} {e : Env} {h : Hp} (hh : HRel w B e h) {t u el ty : TypeId} (ht : tk P t = .slice el) (hu : tk P u = .string) (hel : tok P el = true) (h1 : tsz P el = 1)
    {x y : AV} {vx vy : Value} (hx : R w B (e.E h) x vx) (hy : R w B (e.E h) y vy) (f s : Nat) {K : AV → Hp → Prop} (hK : appendS h f s (tbytes P el) x y K) :
    ∃ w' v h' e' av, (Builtin.append_ #[t, u] ty #[vx, vy]).run P w = .ok v w' ∧ HRel w' B e' h' ∧ Ext w B e h w' B e' h' ∧ R w' B (e'.E h') av v ∧ K av h' := by
  unfold appendS at hK
  split at hK
  · rename_i b
    have := R_str hy
    subst this
    exact appendX_sound hh ht (UOk.string hu) hel hx (by rw [h1]; exact SrcAt.str b) f s (by rw [h1]; exact hK)
  · exact hK.elim

end Go.T
/- Soundness, thirteenth part: literals, parts of slices, make, length, aggregates. -/
namespace Go.T
open Go

theorem lenK_sound {P : Program} {w : World} {B : Nat → Prop} {e : Env} {h : Hp} (hh : HRel w B e h) {t : TypeId} {a : AV} {v : Value} (hv : R w B (e.E h) a v) {K : AV → Prop}
    (hK : lenO (tk P t) h a K) (ty : TypeId) : ∃ x av, (Builtin.len_ #[t] ty #[v]).run P w = .ok x w ∧ R w B (e.E h) av x ∧ K av := by
  unfold lenO at hK
  split at hK
  · rename_i hk
    unfold lenSK at hK
    split at hK
    · obtain rfl := R_str hv
      refine ⟨_, _, ?_, .int _ _, hK⟩
      simp [Builtin.len_, run_underlying (tk_string hk), goInt]
    · exact hK.elim
  · rename_i el hel
    unfold lenK at hK
    split at hK
    · rename_i ex sz xs
      obtain ⟨p, cap, rfl, _⟩ := R_l hv
      refine ⟨_, _, ?_, .int _ _, hK⟩
      simp [Builtin.len_, run_underlying (tk_slice hel), goInt]
    · rename_i L
      unfold lenC at hK
      split at hK
      · rename_i sz xs hcon
        obtain ⟨p, cap, rfl, _⟩ := elems_sound hh hv (a := .os L) (sz := sz) (xs := xs) (by simp [elemsOf, hcon, elemsC])
        refine ⟨_, _, ?_, .int _ _, hK⟩
        simp [Builtin.len_, run_underlying (tk_slice hel), goInt]
      · exact hK.elim
    · rename_i L sz a0 n0
      unfold viewC at hK
      split at hK
      · rename_i sz' xs hcon
        obtain ⟨rfl, hle, hK⟩ := hK
        obtain ⟨p, cap, rfl, _⟩ := elems_sound hh hv (a := .sl L sz' a0 n0) (sz := sz') (xs := (xs.drop a0).take n0) (by simp [elemsOf, hcon, elemsV, hle])
        have hl : ((xs.drop a0).take n0).length = n0 := by simp; omega
        rw [hl]
        refine ⟨_, _, ?_, .int _ _, hK⟩
        simp [Builtin.len_, run_underlying (tk_slice hel), goInt]
      · exact hK.elim
    · exact hK.elim
  · rename_i n el hel
    refine ⟨_, _, ?_, .int _ _, hK⟩
    simp [Builtin.len_, run_underlying (tk_array hel), goInt]
  · exact hK.elim

theorem run_mapM {P : Program} {α β : Type} (f : α → Sem β) (g : α → β) (w : World) : ∀ (xs : List α), (∀ x ∈ xs, (f x).run P w = .ok (g x) w) → (xs.mapM f).run P w = .ok (xs.map g) w := by
  intro xs
  induction xs with
  | nil => intro _; simp
  | cons x xs ih =>
    intro h
    rw [List.mapM_cons, Sem.run_bind, h x (by simp), Result.andThen_ok, Sem.run_bind, ih (fun y hy => h y (by simp [hy])), Result.andThen_ok]
    simp

theorem build_sound {P : Program} {w : World} {B : Nat → Prop} {e : Env} {n : Nat} {st : St} {a : Act} (hr : Rel w B e n st a) {t : TypeId} (parts : Array (Nat × Operand)) {K : AV → Prop}
    (hK : buildK P (tk P t) t st.ev parts.toList K) : ∃ x av, (Instr.build t (parts.map fun (i, x) => (i, a.eval x))).run P w = .ok x w ∧ R w B (e.E st.hp) av x ∧ K av := by
  have e1 : (parts.map fun (i, x) => (i, a.eval x)).toList = parts.toList.map fun (i, x) => (i, a.eval x) := by simp
  unfold buildK at hK
  split at hK
  · rename_i hk
    obtain ⟨fs, hu⟩ := tk_struct hk
    obtain ⟨ht, hfs, hK⟩ := hK
    obtain ⟨i, d, z, hi, hu', hz, htz, hs, htin, _, hz1, hz2⟩ := tok_parts ht
    have hzr := ofVal_cells (w := w) (B := B) (E := e.E st.hp) z
    rw [← htz] at hzr
    have hall : ∀ f ∈ fs.toList, tin P f.type = true := by
      simp only [fsIn, hu] at hfs
      exact List.all_eq_true.1 hfs
    obtain ⟨cs', cells', g1, g2, g3, g4, g5⟩ := fill_sound hr _ (fun i => (fs.map fun f => (f.offset, tsz P f.type))[i]?) (fun i x hx => by
      rw [Option.map_eq_some_iff] at hx
      obtain ⟨⟨off, m, ty⟩, hf, rfl⟩ := hx
      obtain ⟨fs', fld, q1, q2, rfl, rfl, rfl, _⟩ := fof_parts hf
      rw [hu] at q1
      injection q1 with q1; injection q1 with q1
      subst q1
      simp [q2]) parts.toList _ z.cells _ hzr.1 hzr.2 hK
    refine ⟨.agg cells', .agg cs', ?_, .agg _ _ g2 g4, g5⟩
    have hm : ((fs.mapM fun (f : Field) => (do pure (f.offset, ← Go.sizeOf f.type) : Sem (Nat × Nat)))).run P w = .ok (fs.map fun f => (f.offset, tsz P f.type)) w := by
      have hl := run_mapM (P := P) (fun (f : Field) => (do pure (f.offset, ← Go.sizeOf f.type) : Sem (Nat × Nat))) (fun f : Field => (f.offset, tsz P f.type)) w fs.toList (fun f hf => by
        rw [Sem.run_bind, run_sizeOf w (hall f hf), Result.andThen_ok]; rfl)
      obtain ⟨fl⟩ := fs
      rw [List.mapM_toArray, Sem.run_map, hl]
      simp
    simp only [Instr.build, zeroValue, typeInfo, Sem.run_bind, run_program, Result.andThen_ok, hi, hz, Sem.run_pure, run_underlying hu, hm, e1, g1]
  · rename_i m el hk
    have hu := tk_array hk
    obtain ⟨ht, htel, hK⟩ := hK
    obtain ⟨i, d, z, hi, hu', hz, htz, hs, htin, _, hz1, hz2⟩ := tok_parts ht
    have hzr := ofVal_cells (w := w) (B := B) (E := e.E st.hp) z
    rw [← htz] at hzr
    obtain ⟨cs', cells', g1, g2, g3, g4, g5⟩ := fill_sound hr _ _ (fun i x hx => hx) parts.toList _ z.cells _ hzr.1 hzr.2 hK
    refine ⟨.agg cells', .agg cs', ?_, .agg _ _ g2 g4, g5⟩
    simp only [Instr.build, zeroValue, typeInfo, Sem.run_bind, run_program, Result.andThen_ok, hi, hz, Sem.run_pure, run_underlying hu, run_sizeOf w htel, e1, g1]
  · exact hK.elim

/-- Parts in order laid into a row. -/
theorem fillRow {w : World} {B : Nat → Prop} {e : Env} {n : Nat} {st : St} {a : Act} (hr : Rel w B e n st a) (sz : Nat) :
    ∀ (parts : List (Nat × Operand)) (k : Nat) (cells : Array Value), inOrder k parts = true → partsK sz (parts.map fun p => st.ev p.2) → cells.size = (k + parts.length) * sz →
      ∃ cells', Instr.fill (fun i => some (i * sz, sz)) cells (parts.map fun (i, x) => (i, a.eval x)) = some cells' ∧ cells'.size = cells.size ∧
        (∀ q, q < k * sz → cells'.getD q undef = cells.getD q undef) ∧
        (∀ i j, (hi : i < parts.length) → j < sz → R w B (e.E st.hp) ((st.ev (parts[i]).2).cells.getD j .undef) (cells'.getD ((k + i) * sz + j) undef) ∧ (cells'.getD ((k + i) * sz + j) undef).oneCell' = true) := by
  intro parts
  induction parts with
  | nil => intro k cells _ _ _; exact ⟨cells, rfl, rfl, fun _ _ => rfl, fun i j hi => by simp at hi⟩
  | cons p parts ih =>
    intro k cells ho hp hs
    obtain ⟨i, x⟩ := p
    simp only [inOrder, Bool.and_eq_true, beq_iff_eq] at ho
    obtain ⟨rfl, ho⟩ := ho
    simp only [List.map_cons, partsK] at hp
    obtain ⟨h1, h2, hp⟩ := hp
    obtain ⟨q1, q2, q3⟩ := R_cells (ev_R hr x) h2
    have e1 : ((a.eval x).cells.zipIdx).foldl (fun cs (c, j) => cs.setIfInBounds (i * sz + j) c) cells = rowSet cells (i * sz) (a.eval x).cells.toList := by
      have := foldl_row (a.eval x).cells.toList cells (i * sz) 0
      rw [← Array.toList_zipIdx, Array.foldl_toList] at this
      simpa using this
    simp only [List.length_cons] at hs
    have hs2 : (i + (parts.length + 1)) * sz = i * sz + parts.length * sz + sz := by rw [Nat.add_mul, Nat.add_mul]; omega
    have hrs := rowSet_size (a.eval x).cells.toList cells (i * sz)
    obtain ⟨cells', r1, r2, r3, r4⟩ := ih (i + 1) (rowSet cells (i * sz) (a.eval x).cells.toList) ho hp (by rw [hrs, hs]; congr 1; omega)
    have hget := rowSet_getD (a.eval x).cells.toList cells (i * sz)
    refine ⟨cells', ?_, by rw [r2, hrs], fun q hq => ?_, fun i' j hi hj => ?_⟩
    · simp only [List.map_cons, Instr.fill]
      rw [if_neg (by simp; omega), e1]
      exact r1
    · rw [r3 q (by rw [Nat.add_mul]; omega), hget q (by simp; omega), if_neg (by omega)]
    · cases i' with
      | zero =>
        simp only [List.getElem_cons_zero, Nat.add_zero]
        rw [r3 _ (by rw [Nat.add_mul]; omega), hget _ (by simp; omega), if_pos (by simp; omega)]
        have e2 : i * sz + j - i * sz = j := by omega
        rw [e2]
        have := q3 j (by omega)
        refine ⟨by simpa using this, q2 _ ?_⟩
        have hlt : j < (a.eval x).cells.toList.length := by rw [Array.length_toList]; omega
        simp only [List.getD_eq_getElem?_getD, List.getElem?_eq_getElem hlt, Option.getD_some]
        exact List.getElem_mem hlt
      | succ i' =>
        simp only [List.getElem_cons_succ]
        have := r4 i' j (by simpa using hi) hj
        have e2 : i + 1 + i' = i + (i' + 1) := by omega
        rwa [e2] at this

theorem buildSlice_sound {P : Program} {w : World} {B : Nat → Prop} {e : Env} {n : Nat} {st : St} {a : Act} (hr : Rel w B e n st a) {t : TypeId} (len : Nat) (parts : Array (Nat × Operand)) {K : AV → Prop}
    (hK : buildSliceK P (tk P t) len st.ev parts.toList K) :
    ∃ w' B' x av, (Instr.buildSlice t len (parts.map fun (i, x) => (i, a.eval x))).run P w = .ok x w' ∧ HRel w' B' e st.hp ∧ Ext w B e st.hp w' B' e st.hp ∧ R w' B' (e.E st.hp) av x ∧ K av := by
  unfold buildSliceK at hK
  split at hK
  · rename_i el hk
    have hu := tk_slice hk
    obtain ⟨hel, hpos, ho, rfl, hmax, hp, hK⟩ := hK
    obtain ⟨i, d, z, hi, hu', hz, htz, hs, htin, _, hz1, hz2⟩ := tok_parts hel
    have e1 : (parts.map fun (i, x) => (i, a.eval x)).toList = parts.toList.map fun (i, x) => (i, a.eval x) := by simp
    obtain ⟨cells', r1, r2, _, r4⟩ := fillRow hr (tsz P el) parts.toList 0 ((Array.range (parts.toList.length * tsz P el)).map (z.cells[· % z.cells.size]!)) ho hp (by simp)
    let w' := World.pushObj w (.cells cells' el)
    let B' : Nat → Prop := fun b => B b ∨ b = w.heap.size
    have hh := hr.hp
    have xt : Ext w B e st.hp w' B' e st.hp :=
      { size := by show w.heap.size ≤ (w.heap.push _).size; simp
        os := rfl
        tape := rfl
        output := rfl
        bsub := fun _ h => .inl h
        bnew := fun b hb => hb.imp id (fun h => .inr (by omega))
        keep := fun b hb _ => by show (w.heap.push _)[b]? = _; rw [Array.getElem?_push, if_neg (by omega)]
        onew := fun L hL => .inl ⟨L, hL, rfl⟩
        cnt := fun _ _ => Nat.le_refl _
        env := fun _ _ => ⟨rfl, rfl⟩
        live := fun _ _ h => h }
    have hrel : HRel w' B' e st.hp := by
      refine ⟨fun L hk => ?_, hh.inj, fun b hb => ?_, hh.glbX xt⟩
      · have hcon := hh.con L hk
        by_cases hhas : e.has st.hp L
        · obtain ⟨hl, hnb⟩ := hh.lt hhas
          refine ConRel.ext hh xt hk ?_ (fun hn hb => ?_) hcon
          · show (w.heap.push _)[_]? = _; rw [Array.getElem?_push, if_neg (by omega)]
          · rcases hb with h | h
            · exact hn h
            · omega
        · cases hcc : st.hp.con L with
          | none => trivial
          | blk cs => exact absurd ⟨hk, by rw [hcc]; trivial⟩ hhas
          | mp es ck => exact absurd ⟨hk, by rw [hcc]; trivial⟩ hhas
          | bt T cs => exact absurd ⟨hk, by rw [hcc]; trivial⟩ hhas
          | ba T cs => exact absurd ⟨hk, by rw [hcc]; trivial⟩ hhas
          | gl cs => rw [hcc] at hcon; exact ConRel.gl_ext hh xt hk hcon
          | lp sl n ps asg bd st => exact absurd ⟨hk, by rw [hcc]; trivial⟩ hhas
          | arr sz xs =>
            rw [hcc] at hcon
            obtain ⟨a', cap, g1, g2, g3, g4⟩ := hcon
            refine ⟨a', cap, g1, g2, g3, .inl ?_⟩
            apply Classical.byContradiction
            intro hne
            exact hhas ⟨hk, by rw [hcc]; exact ⟨_, _, _, g1, hne⟩⟩
      · show b < (w.heap.push _).size
        rcases hb with h | h
        · have := hh.bnd b h; simp; omega
        · simp; omega
    refine ⟨w', B', .slice (some ⟨w.heap.size, 0, none⟩) parts.size parts.size, _, ?_, hrel, xt, ?_, hK⟩
    · have hm : ¬ (parts.size * i.size > 2 ^ 24) := by rw [← hs]; simpa using hmax
      simp only [Array.length_toList] at r1 r2 hmax
      simp only [Instr.buildSlice, Sem.run_bind, run_underlying hu, Result.andThen_ok, run_sizeOf w htin, Array.length_toList]
      rw [if_neg (by omega)]
      by_cases h0 : parts.size = 0
      · have hp0 : parts = #[] := Array.eq_empty_of_size_eq_zero h0
        subst hp0
        have hr0 : ∀ f : Nat → Value, (Array.range 0).map f = #[] := fun f => Array.eq_empty_of_size_eq_zero (by simp)
        have hc : cells' = #[] := by
          have hs0 : cells'.size = 0 := by rw [r2]; simp
          exact Array.eq_empty_of_size_eq_zero hs0
        simp [w', hc, Instr.fill, newRow, World.pushObj, hr0]
      · have : ¬ (parts.size * tsz P el = 0) := by
          have := Nat.mul_pos (Nat.pos_of_ne_zero h0) hpos
          omega
        rw [if_neg this]
        simp only [zeroValue, typeInfo, Sem.run_bind, run_program, Result.andThen_ok, hi, hz, Sem.run_pure, e1]
        rw [r1]
        simp [newRow, w', World.pushObj]
    · by_cases h0 : parts.size = 0
      · have hp0 : parts = #[] := Array.eq_empty_of_size_eq_zero h0
        subst hp0
        exact .l0 _ _ _ _ (fun _ => rfl)
      · have hmap : (parts.toList.map fun p => st.ev p.2).length = parts.size := by simp
        have hlen : ∀ (l : List AV), partsK (tsz P el) l → ∀ i, (h : i < l.length) → (l[i]).cells.length = tsz P el := by
          intro l
          induction l with
          | nil => intro _ i h; simp at h
          | cons x l ih =>
            intro hl i hi
            cases i with
            | zero => exact hl.1
            | succ i => simpa using ih hl.2.2 i (by simpa using hi)
        have hsz : cells'.size = parts.size * tsz P el := by rw [r2]; simp
        have := R.l (w := w') (B := B') (E := e.E st.hp) true (tsz P el) (parts.toList.map fun p => st.ev p.2) w.heap.size 0 parts.size (fun i j => cells'.getD (i * tsz P el + j) undef)
          (by intro hE; rw [hE] at hmap; simp at hmap; omega) (fun _ => by rw [hmap]) (by rw [hmap]; exact Nat.le_refl _) (.inr rfl) (hlen _ hp)
          (fun i j hi hj => by
            rw [hmap] at hi
            rw [Nat.zero_add]
            refine getD_row (T := el) (fr := (0, 0)) (vs := cells') ?_ ?_
            · show (w.heap.push _)[w.heap.size]? = _; simp
            · rw [hsz]
              have : (i + 1) * tsz P el ≤ parts.size * tsz P el := Nat.mul_le_mul_right _ hi
              rw [Nat.add_mul] at this; omega)
          (fun i j hi hj => by
            have hi' : i < parts.toList.length := by rw [hmap] at hi; simpa using hi
            have := (r4 i j hi' hj).1.ext hh xt
            rw [Nat.zero_add] at this
            simpa using this)
          (fun i j hi hj => by
            have hi' : i < parts.toList.length := by rw [hmap] at hi; simpa using hi
            have := (r4 i j hi' hj).2
            rwa [Nat.zero_add] at this)
        rwa [hmap] at this
  · exact hK.elim

theorem conv_sound {P : Program} {w : World} {B : Nat → Prop} {e : Env} {h : Hp} {s d : TypeId} {a : AV} {v : Value} (hv : R w B (e.E h) a v) {K : AV → Prop} (hK : convK (tk P s) (tk P d) a K) :
    ∃ x av, (convert s d v).run P w = .ok x w ∧ R w B (e.E h) av x ∧ K av := by
  unfold convK at hK
  split at hK
  · rename_i h1 h2
    obtain rfl := R_int hv
    refine ⟨_, _, ?_, .int _ _, hK⟩
    simp [convert, run_underlying (tk_int h1), run_underlying (tk_int h2), Conv.intToInt]
  · exact hK.elim

theorem extract_sound {P : Program} {w : World} {B : Nat → Prop} {e : Env} {h : Hp} {a : AV} {v : Value} (hv : R w B (e.E h) a v) {i : Nat} {K : AV → Prop} (hK : extractK a i K) :
    ∃ x av, (Instr.extract v i).run P w = .ok x w ∧ R w B (e.E h) av x ∧ K av := by
  unfold extractK at hK
  split at hK
  · rename_i vs
    obtain ⟨hi, hK⟩ := hK
    obtain ⟨us, rfl, hs, hr⟩ := R_tup hv
    have hi' : i < us.size := by omega
    refine ⟨us[i], vs[i], ?_, ?_, hK⟩
    · simp [Instr.extract, hi']
    · have := hr i hi
      simpa [hi, hi'] using this
  · exact hK.elim

theorem nilCheck_sound {w : World} {B : Nat → Prop} {e : Env} {h : Hp} {a : AV} {v : Value} (hv : R w B (e.E h) a v) {K : AV → Prop} (hK : nilCheckK a K) :
    (∃ p, v = .pointer (some p)) ∧ R w B (e.E h) a v ∧ K a := by
  unfold nilCheckK at hK
  split at hK
  · obtain ⟨b, off, vs, rfl, _⟩ := R_ip hv
    exact ⟨⟨_, rfl⟩, hv, hK⟩
  · obtain ⟨_, ⟨p, rfl⟩, _⟩ := R_pt hv
    exact ⟨⟨p, rfl⟩, hv, hK⟩
  · exact hK.elim

end Go.T
/- Soundness, fourteenth part: parts of slices and strings; make. -/
namespace Go.T
open Go

theorem run_sliceBound {P : Program} (w : World) (k : IntKind) (i : Int) (y : Nat) (c : BoundsCode) (h0 : 0 ≤ i) (h1 : i ≤ y) : (Instr.sliceBound (.int k i) y c).run P w = .ok i.toNat w := by
  simp only [Instr.sliceBound, asIntOf, Sem.run_bind, Sem.run_pure, Result.andThen_ok]
  rw [if_pos ⟨h0, h1⟩]; rfl

/-- A part of a slice by value, from element a on, n elements. -/
theorem sub_R {w : World} {B : Nat → Prop} {e : Env} {h : Hp} {ex ex' : Bool} {sz : Nat} {xs : List AV} {p : Option Addr} {len cap : Nat} (hv : R w B (e.E h) (.l ex sz xs) (.slice p len cap))
    (a n c : Nat) (ha : a + n ≤ xs.length) (hex : ex' = true → c = n) (hc : n ≤ c) :
    R w B (e.E h) (.l ex' sz ((xs.drop a).take n)) (.slice (if cap = a then p else p.map (·.add (a * sz))) n c) := by
  obtain ⟨p', cap', he, _, hle, hr⟩ := R_l hv
  injection he with e1 e2 e3
  subst e1; subst e2; subst e3
  by_cases hn : n = 0
  · subst hn
    rw [List.take_zero]
    exact .l0 _ _ _ _ (fun h => hex h)
  · have hne : xs ≠ [] := by intro h; rw [h] at ha; simp at ha; omega
    obtain ⟨b, off, vs, rfl, hb, h1, h2, h3, h4⟩ := hr hne
    rw [if_neg (by omega)]
    have hl : ((xs.drop a).take n).length = n := by simp; omega
    have hg : ∀ i (hi : i < ((xs.drop a).take n).length), ((xs.drop a).take n)[i] = xs[a + i]'(by omega) := by
      intro i hi; simp
    have := R.l (w := w) (B := B) (E := e.E h) ex' sz ((xs.drop a).take n) b (off + a * sz) c (fun i j => vs (a + i) j) (by intro h; rw [h] at hl; simp at hl; omega) (fun h => by rw [hl]; exact hex h) (by rw [hl]; exact hc) hb
      (fun i hi => by rw [hg i hi]; exact h1 _ _)
      (fun i j hi hj => by
        have := h2 (a + i) j (by omega) hj
        have e1 : off + ((a + i) * sz + j) = off + a * sz + (i * sz + j) := by rw [Nat.add_mul]; omega
        rwa [e1] at this)
      (fun i j hi hj => by rw [hg i hi]; exact h3 _ j _ hj)
      (fun i j hi hj => h4 _ j (by omega) hj)
    rw [hl] at this
    simpa [addr_add] using this

theorem slice_sound {P : Program} {w : World} {B : Nat → Prop} {e : Env} {n : Nat} {st : St} {a : Act} (hr : Rel w B e n st a) {t : TypeId} {x : AV} {v : Value} (hv : R w B (e.E st.hp) x v)
    {lo hi mx : Option Operand} (hs : (tk P t).sliceable P x) {K : AV → Prop} (hK : sliceK x (lo.map st.ev) (hi.map st.ev) (mx.map st.ev) K) :
    ∃ y av, (Instr.sliceAt t v (lo.map a.eval) (hi.map a.eval) (mx.map a.eval)).run P w = .ok y w ∧ R w B (e.E st.hp) av y ∧ K av := by
  have hint : ∀ {o : Option Operand} {k : IntKind} {i : Int}, o.map st.ev = some (.int k i) → o.map a.eval = some (.int k i) := by
    intro o k i ho
    cases o with
    | none => simp at ho
    | some o =>
      simp only [Option.map_some, Option.some.injEq] at ho ⊢
      have := ev_R hr o
      rw [ho] at this
      exact R_int this
  have hnone : ∀ {o : Option Operand}, o.map st.ev = none → o.map a.eval = none := by
    intro o ho; cases o with
    | none => rfl
    | some o => simp at ho
  unfold TK.sliceable at hs
  split at hs
  · -- a string
    rename_i hk
    have hu := tk_string hk
    obtain rfl := R_str hv
    rename_i s
    unfold sliceK at hK
    split at hK
    · rename_i s' hE
      injection hE with hE; subst hE
      split at hK
      · rename_i k b h1 h2 h3
        obtain ⟨q1, q2, hK⟩ := hK
        refine ⟨_, _, ?_, .str _, hK⟩
        rw [hnone h1, hint h2, hnone h3]
        simp [Instr.sliceAt, run_underlying hu, Instr.slice, Instr.sliceBounds, run_sliceBound w k b s.size _ q1 q2]
      · rename_i k b h1 h2 h3
        obtain ⟨q1, q2, hK⟩ := hK
        refine ⟨_, _, ?_, .str _, hK⟩
        rw [hint h1, hnone h2, hnone h3]
        simp [Instr.sliceAt, run_underlying hu, Instr.slice, Instr.sliceBounds, run_sliceBound w k b s.size _ q1 q2]
      · rename_i k b k' c h1 h2 h3
        obtain ⟨q1, q2, q3, hK⟩ := hK
        refine ⟨_, _, ?_, .str _, hK⟩
        rw [hint h1, hint h2, hnone h3]
        simp [Instr.sliceAt, run_underlying hu, Instr.slice, Instr.sliceBounds, run_sliceBound w k' c s.size _ (by omega) q3, run_sliceBound w k b c.toNat _ q1 (by omega)]
      · exact hK.elim
    · rename_i hE; cases hE
    · rename_i hE _; exact absurd rfl (hE _)
  · -- a slice
    rename_i el ex sz xs hk
    have hu := tk_slice hk
    obtain ⟨htin, hsz⟩ := hs
    obtain ⟨p, cap, rfl, hexc, hle, _⟩ := R_l hv
    have hsz' : ∀ a n, a + n ≤ xs.length → n ≠ 0 → (if cap = a then p else p.map (·.add (a * tsz P el))) = (if cap = a then p else p.map (·.add (a * sz))) := by
      intro a n h1 h2
      rw [hsz (by intro h; rw [h] at h1; simp at h1; omega)]
    have fin : ∀ (ex' : Bool) (a n c : Nat), a + n ≤ xs.length → (ex' = true → c = n) → n ≤ c →
        R w B (e.E st.hp) (.l ex' sz ((xs.drop a).take n)) (.slice (if cap = a then p else p.map (·.add (a * tsz P el))) n c) := by
      intro ex' a n c h1 h2 h3
      by_cases hn : n = 0
      · subst hn; rw [List.take_zero]; exact .l0 _ _ _ _ (fun h => h2 h)
      · rw [hsz' a n h1 hn]; exact sub_R hv a n c h1 h2 h3
    unfold sliceK at hK
    split at hK
    · rename_i hE; cases hE
    · rename_i ex' sz' xs' hE
      injection hE with hE1 hE2 hE3; subst hE1; subst hE2; subst hE3
      split at hK
      · rename_i k b h1 h2 h3
        obtain ⟨q1, q2, hK⟩ := hK
        have := fin false 0 b.toNat cap (by omega) (by simp) (by omega)
        simp only [List.drop_zero] at this
        refine ⟨_, _, ?_, this, hK⟩
        rw [hnone h1, hint h2, hnone h3]
        simp [Instr.sliceAt, run_underlying hu, Instr.slice, Instr.sliceBounds, run_sliceBound w k b cap _ q1 (by omega), run_sizeOf w htin]
      · rename_i k b h1 h2 h3
        obtain ⟨q1, q2, hK⟩ := hK
        have := fin ex b.toNat (xs.length - b.toNat) (cap - b.toNat) (by omega) (fun h => by rw [hexc h]) (by omega)
        rw [List.take_of_length_le (by simp)] at this
        refine ⟨_, _, ?_, this, hK⟩
        rw [hint h1, hnone h2, hnone h3]
        simp [Instr.sliceAt, run_underlying hu, Instr.slice, Instr.sliceBounds, run_sliceBound w k b xs.length _ q1 q2, run_sizeOf w htin]
      · rename_i k b k' c h1 h2 h3
        obtain ⟨q1, q2, q3, hK⟩ := hK
        have := fin false b.toNat (c.toNat - b.toNat) (cap - b.toNat) (by omega) (by simp) (by omega)
        refine ⟨_, _, ?_, this, hK⟩
        rw [hint h1, hint h2, hnone h3]
        simp [Instr.sliceAt, run_underlying hu, Instr.slice, Instr.sliceBounds, run_sliceBound w k' c cap _ (by omega) (by omega), run_sliceBound w k b c.toNat _ q1 (by omega), run_sizeOf w htin]
      · rename_i k b k' c h1 h2 h3
        obtain ⟨q1, rfl, q3, hK⟩ := hK
        have := fin true 0 b.toNat b.toNat (by omega) (by simp) (by omega)
        simp only [List.drop_zero] at this
        have e1 : (if cap = 0 then p else p.map (·.add (0 * tsz P el))) = (if b.toNat = 0 then p else p.map (·.add (0 * tsz P el))) := by
          have : p.map (·.add (0 * tsz P el)) = p := by cases p <;> simp [Addr.add]
          rw [this]; simp
        rw [e1] at this
        refine ⟨_, _, ?_, this, hK⟩
        rw [hnone h1, hint h2, hint h3]
        simp [Instr.sliceAt, run_underlying hu, Instr.slice, Instr.sliceBounds, run_sliceBound w k' b cap _ q1 (by omega), run_sliceBound w k b b.toNat _ q1 (by omega), run_sizeOf w htin]
      · exact hK.elim
    · rename_i hE; exact absurd rfl (hE _ _ _)
  · exact hs.elim

/-- A part of an own slice. -/
theorem view_sound {P : Program} {w : World} {B : Nat → Prop} {e : Env} {n0 : Nat} {st : St} {a : Act} (hr : Rel w B e n0 st a) {t el : TypeId} (ht : tk P t = .slice el) (hel : tin P el = true)
    {L : Lab} {a0 n cap m : Nat} {p q : Option Addr} (hk : L.k < st.hp.cnt L.f L.s) (hη : e.η L = .slice p m cap) (hle : a0 + n ≤ cap) (hq : a0 < cap → q = p.map (·.add (a0 * tsz P el)))
    {lo hi mx : Option Operand} {K : AV → Prop} (hK : viewK L (tsz P el) a0 n (lo.map st.ev) (hi.map st.ev) (mx.map st.ev) K) :
    ∃ y av, (Instr.sliceAt t (.slice q n (cap - a0)) (lo.map a.eval) (hi.map a.eval) (mx.map a.eval)).run P w = .ok y w ∧ R w B (e.E st.hp) av y ∧ K av := by
  have hint : ∀ {o : Option Operand} {k : IntKind} {i : Int}, o.map st.ev = some (.int k i) → o.map a.eval = some (.int k i) := by
    intro o k i ho
    cases o with
    | none => simp at ho
    | some o =>
      simp only [Option.map_some, Option.some.injEq] at ho ⊢
      have := ev_R hr o
      rw [ho] at this
      exact R_int this
  have hnone : ∀ {o : Option Operand}, o.map st.ev = none → o.map a.eval = none := by
    intro o ho; cases o with
    | none => rfl
    | some o => simp at ho
  have hu := tk_slice ht
  have fin : ∀ (b c : Nat), b + c ≤ n → R w B (e.E st.hp) (.sl L (tsz P el) (a0 + b) c) (.slice (if cap - a0 = b then q else q.map (·.add (b * tsz P el))) c (cap - a0 - b)) := by
    intro b c hbc
    refine .ref _ _ ⟨hk, ⟨_, _, _, rfl⟩, fun _ => ⟨p, m, cap, _, hη, by omega, by rw [Nat.sub_sub], fun hlt => ?_⟩⟩
    rw [if_neg (by omega), hq (by omega)]
    cases p with
    | none => rfl
    | some p => simp only [Option.map_some, Addr.add]; congr 1; split <;> split <;> (try split) <;> simp_all [Nat.add_mul] <;> omega
  unfold viewK at hK
  split at hK
  · rename_i k b h1 h2 h3
    obtain ⟨q1, q2, hK⟩ := hK
    have := fin 0 b.toNat (by omega)
    refine ⟨_, _, ?_, this, hK⟩
    rw [hnone h1, hint h2, hnone h3]
    simp [Instr.sliceAt, run_underlying hu, Instr.slice, Instr.sliceBounds, run_sliceBound w k b (cap - a0) _ q1 (by omega), run_sizeOf w hel]
  · rename_i k b h1 h2 h3
    obtain ⟨q1, q2, hK⟩ := hK
    have := fin b.toNat (n - b.toNat) (by omega)
    refine ⟨_, _, ?_, this, hK⟩
    rw [hint h1, hnone h2, hnone h3]
    simp [Instr.sliceAt, run_underlying hu, Instr.slice, Instr.sliceBounds, run_sliceBound w k b n _ q1 q2, run_sizeOf w hel]
  · rename_i k b k' c h1 h2 h3
    obtain ⟨q1, q2, q3, hK⟩ := hK
    have := fin b.toNat (c.toNat - b.toNat) (by omega)
    refine ⟨_, _, ?_, this, hK⟩
    rw [hint h1, hint h2, hnone h3]
    simp [Instr.sliceAt, run_underlying hu, Instr.slice, Instr.sliceBounds, run_sliceBound w k' c (cap - a0) _ (by omega) (by omega), run_sliceBound w k b c.toNat _ q1 (by omega), run_sizeOf w hel]
  · exact hK.elim
theorem viewP_sound {P : Program} {k : TK} {K : Nat → Prop} (hK : viewP P k K) : ∃ el, k = .slice el ∧ tin P el = true ∧ K (tsz P el) := by
  unfold viewP at hK
  split at hK
  · exact ⟨_, rfl, hK⟩
  · exact hK.elim
theorem sliceO_sound {P : Program} {w : World} {B : Nat → Prop} {e : Env} {n : Nat} {st : St} {a : Act} (hr : Rel w B e n st a) {t : TypeId} {x : AV} {v : Value} (hv : R w B (e.E st.hp) x v)
    {lo hi mx : Option Operand} {K : AV → Prop} (hK : sliceO P (tk P t) st.hp x (lo.map st.ev) (hi.map st.ev) (mx.map st.ev) K) :
    ∃ y av, (Instr.sliceAt t v (lo.map a.eval) (hi.map a.eval) (mx.map a.eval)).run P w = .ok y w ∧ R w B (e.E st.hp) av y ∧ K av := by
  unfold sliceO at hK
  split at hK
  · rename_i L
    obtain ⟨el, ht, hel, hK⟩ := viewP_sound hK
    unfold viewO at hK
    split at hK
    · rename_i sz' xs hcon
      obtain ⟨rfl, hK⟩ := hK
      obtain ⟨g1, _, g3⟩ := R_os hv
      have g3 := g3 (by rw [hcon]; trivial)
      have hc := hr.hp.con L g1
      rw [hcon] at hc
      obtain ⟨a', cap, hη, hcap, _⟩ := hc
      rw [hη] at g3
      subst g3
      have := view_sound (a0 := 0) (q := a') hr ht hel g1 hη (by omega) (fun _ => by cases a' <;> simp [Addr.add]) hK
      simpa using this
    · exact hK.elim
  · rename_i L sz a0 n0
    obtain ⟨el, ht, hel, rfl, hK⟩ := viewP_sound hK
    unfold viewC at hK
    split at hK
    · rename_i sz' xs hcon
      obtain ⟨rfl, hle, hK⟩ := hK
      obtain ⟨g1, _, g3⟩ := R_sl hv
      obtain ⟨p, m, c, q, g4, g5, rfl, g7⟩ := g3 (by rw [hcon]; trivial)
      exact view_sound hr ht hel g1 g4 g5 g7 hK
    · exact hK.elim
  · exact slice_sound hr hv hK.1 hK.2

end Go.T
