/- Part of a proof: a small logic of programs over plain values, shown sound for the given machine. -/
import Derived.Test.YtmajndgdfmnchaaT2
import Derived.IntWalk
import Derived.Shelf.Sort.Plain
import Derived.Sort.OwnSortedInts
import Derived.ChangeArms
import Derived.OpenShut
import Derived.Below
import Derived.SizedLaws
/- The rules by which simp runs the abstract semantics. None is a definitional equation for simp: each is a rewrite of its own. -/
namespace Go.T
open Go

/- What follows a call or a map's reading, kept from simp: an argument whose type hangs on it holds it fast. -/
structure Tok {α : Type} (K : α) : Type where
def CallX (P : Program) (f : FuncId) (args : List AV) (h : Hp) (K : AV → Hp → Prop) (_ : Tok K) : Prop := CallK P f args h K
def PureX (P : Program) (f : FuncId) (args : List AV) (K : AV → Prop) (_ : Tok K) : Prop := ∃ v, PureF P f args v ∧ K v
def LookX (cs : List AV) (es : List (AV × AV × Nat)) (ok : Bool) (z : AV) (K : AV → Prop) (_ : Tok K) : Prop := ∃ r, findM cs es 0 = some r ∧ lookR es ok z r K
def EntryX (h : Hp) (L : Lab) (es : List (AV × AV × Nat)) (ck : Nat) (z : AV) (cs : List AV) (K : AV → Hp → Prop) (_ : Tok K) : Prop := ∃ r, findM cs es 0 = some r ∧ entryR h L es ck z cs r K
def StoreX (h : Hp) (L : Lab) (es : List (AV × AV × Nat)) (ck : Nat) (v : AV) (b : Int) (K : Hp → Prop) (_ : Tok K) : Prop := estoreR h L es ck v (findB b es 0) K
theorem CallX.of {P : Program} {f : FuncId} {args : List AV} {h : Hp} {K : AV → Hp → Prop} {u : Tok K} (hc : CallK P f args h K) : CallX P f args h K u := hc
theorem CallX.pure {P : Program} {f : FuncId} {args : List AV} {h : Hp} {K : AV → Hp → Prop} {u : Tok K} {r : AV} (hp : PureF P f args r) (hk : K r h) : CallX P f args h K u := hp.use hk
theorem PureX.of {P : Program} {f : FuncId} {args : List AV} {K : AV → Prop} {u : Tok K} {r : AV} (hp : PureF P f args r) (hk : K r) : PureX P f args K u := ⟨r, hp, hk⟩
theorem LookX.of {cs : List AV} {es : List (AV × AV × Nat)} {ok : Bool} {z : AV} {K : AV → Prop} {u : Tok K} {r : Option Nat} (h : findM cs es 0 = some r) (hk : lookR es ok z r K) : LookX cs es ok z K u := ⟨r, h, hk⟩
theorem EntryX.of {h : Hp} {L : Lab} {es : List (AV × AV × Nat)} {ck : Nat} {z : AV} {cs : List AV} {K : AV → Hp → Prop} {u : Tok K} {r : Option Nat} (hf : findM cs es 0 = some r) (hk : entryR h L es ck z cs r K) : EntryX h L es ck z cs K u := ⟨r, hf, hk⟩
theorem StoreX.of {h : Hp} {L : Lab} {es : List (AV × AV × Nat)} {ck : Nat} {v : AV} {b : Int} {K : Hp → Prop} {u : Tok K} {r : Option Nat} (hf : findB b es 0 = r) (hk : estoreR h L es ck v r K) : StoreX h L es ck v b K u := by subst hf; exact hk

/- Values are reckoned before they are laid down. -/
def letK (v : AV) (K : AV → Prop) : Prop := K v
def letL (v : List AV) (K : List AV → Prop) : Prop := K v
def hid (h : Hp) : Hp := h
def letH (h : Hp) (K : Hp → Prop) : Prop := K h
@[go_sem] theorem letK_eq {v K} : letK v K = K v := propext Iff.rfl
@[go_sem] theorem letL_eq {v K} : letL v K = K v := propext Iff.rfl
@[go_sem] theorem letH_eq {v K} : letH v K = K v := propext Iff.rfl
@[go_sem] theorem hid_eq {h} : hid h = h := by simp [hid]
@[congr] theorem letK_congr {v v' : AV} {K : AV → Prop} (e : v = v') : letK v K = letK v' K := by subst e; rfl
@[congr] theorem letL_congr {v v' : List AV} {K : List AV → Prop} (e : v = v') : letL v K = letL v' K := by subst e; rfl
@[congr] theorem letH_congr {v v' : Hp} {K : Hp → Prop} (e : v = v') : letH v K = letH v' K := by subst e; rfl

def sucN (n : Nat) : Nat := n + 1
def hidN (n : Nat) : Nat := n
def selO (b : Bool) (v w : Option Nat) : Option Nat := if b then v else w
/-- The slot of the j-th of the n operations ahead, of which the last stands first. -/
def nthR : List (Option Nat) → Nat → Nat → Option Nat
  | [], _, _ => .none
  | d :: r, n, j => selO (j + 1 == n) d (nthR r (n - 1) j)
theorem nthR_eq : ∀ (done : List (Option Nat)) (j : Nat), nthR done done.length j = done.reverse.getD j .none := by
  intro done
  induction done with
  | nil => intro j; simp [nthR]
  | cons d r ih =>
    intro j
    simp only [nthR, List.length_cons, Nat.add_sub_cancel, ih, List.reverse_cons, selO]
    by_cases hj : j = r.length
    · subst hj; simp
    · have h1 : ¬ (j + 1 == r.length + 1) = true := by simpa using hj
      rw [if_neg h1]
      rcases Nat.lt_or_ge j r.length with hl | hl
      · simp [List.getElem?_append_left, hl]
      · have : r.length < j := by omega
        simp [List.getD_eq_getElem?_getD, List.getElem?_append_right, hl]
        have h2 : ∃ m, j - r.length = m + 1 := ⟨j - r.length - 1, by omega⟩
        obtain ⟨m, hm⟩ := h2
        rw [hm]; simp
/-- A region's operations, one behind the other: for simp: 'done' stands backwards, and how many they are stands beside. -/
def opsR (P : Program) (fid : Nat) : List Tg → Nat → List (Option Nat) → List Oper → St → (St → Prop) → Prop
  | _, _, _, [], st, K => K st
  | tg, n, done, o :: r, st, K =>
    guardG o.guard
      (opT P fid (headT tg) o st (fun st' => opsR P fid (tailT tg) (n + 1) (o.dst :: done) r st' K))
      (fun j want => guardO (nthR done n j) fun d => guardK (st.slots d) want
        (opT P fid (headT tg) o (st.put (some d) (.bool want)) (fun st' => opsR P fid (tailT tg) (n + 1) (o.dst :: done) r st' K))
        (opsR P fid (tailT tg) (n + 1) (o.dst :: done) r ((st.put (some d) (.bool (!want))).put o.dst .un) K)
        (opsR P fid (tailT tg) (n + 1) (o.dst :: done) r (st.put o.dst .un) K))
theorem opsR_eq {P : Program} {fid : Nat} {K : St → Prop} {l : List Oper} : ∀ {tg : List Tg} (done : List (Option Nat)) (n : Nat) {st : St} (_ : n = done.length), opsK P fid tg done.reverse l st K = opsR P fid tg n done l st K := by
  induction l with
  | nil => intro tg done n st _; simp [opsK, opsR]
  | cons o r ih =>
    intro tg done n st hn
    have e : ∀ st', opsK P fid (tailT tg) (done.reverse ++ [o.dst]) r st' K = opsR P fid (tailT tg) (n + 1) (o.dst :: done) r st' K := fun st' => by
      rw [← ih (o.dst :: done) (n + 1) (by simp [hn])]; simp
    have e2 : nthR done n = fun j => done.reverse.getD j .none := by funext j; rw [hn, nthR_eq]
    simp only [opsK, opsR, e, e2]

section ops
variable {P : Program} {fid : Nat} {d : Option Nat} {ty : TypeId} {ps : String} {af : Array Edge} {g : Option (Nat × Bool)} {st : St} {K : St → Prop}
attribute [go_sem] put_none put_hp withHp_slots withHp_hp
def sel (b : Bool) (v w : AV) : AV := if b then v else w
@[go_sem ↓, go_sem] theorem sel_t {v w} : sel true v w = v := by simp [sel]
@[go_sem ↓, go_sem] theorem sel_f {v w} : sel false v w = w := by simp [sel]
@[congr] theorem sel_congr {b b' : Bool} {v w : AV} (e : b = b') : sel b v w = sel b' v w := by subst e; rfl
@[go_sem ↓, go_sem] theorem put_slots' (st : St) (d : Nat) (v : AV) (m : Nat) : (st.put (some d) v).slots m = sel (m == d) v (st.slots m) := by rw [put_slots]; simp [sel]
@[go_sem ↓, go_sem] theorem opK_move {x} : opK P fid ⟨d, .move x, ty, ps, af, g⟩ st K = letK (st.ev x) (fun v => K (st.put d v)) := propext Iff.rfl
@[go_sem ↓, go_sem] theorem opK_assign {x} : opK P fid ⟨d, .assign x, ty, ps, af, g⟩ st K = letK (st.ev x) (fun v => K (st.put d v)) := propext Iff.rfl
@[go_sem ↓, go_sem] theorem pickK_t {a b K} : pickK (.bool true) a b K = K a := propext Iff.rfl
@[go_sem ↓, go_sem] theorem pickK_f {a b K} : pickK (.bool false) a b K = K b := propext Iff.rfl
@[go_sem ↓, go_sem] theorem opK_pick {c a b} : opK P fid ⟨d, .pick c a b, ty, ps, af, g⟩ st K = pickK (st.ev c) (st.ev a) (st.ev b) (fun v => K (st.put d v)) := propext Iff.rfl
@[go_sem ↓, go_sem] theorem opK_alloc {t} : opK P fid ⟨d, .alloc t, ty, ps, af, g⟩ st K =
  (tok P t = true ∧ letH (hid st.hp) (fun H => K ((st.withHp (H.alloc fid (d.getD 0) (.blk (tzero P t).cells))).put d (.pt (H.fresh fid (d.getD 0)) 0 0 0)))) := propext Iff.rfl
@[go_sem ↓, go_sem] theorem opK_box {t x} : opK P fid ⟨d, .box t x, ty, ps, af, g⟩ st K =
  boxK (st.ev x) (fun cs => letH (hid st.hp) (fun H => K ((st.withHp (H.alloc fid (d.getD 0) (.blk cs))).put d (.pt (H.fresh fid (d.getD 0)) 0 0 0)))) := propext Iff.rfl
@[go_sem ↓, go_sem] theorem opK_load {t a} : opK P fid ⟨d, .load t a, ty, ps, af, g⟩ st K = (tin P t = true ∧ loadK st.hp (tk P t).agg (tsz P t) (st.ev a) (fun v => K (st.put d v))) := propext Iff.rfl
@[go_sem ↓, go_sem] theorem opK_store {t a x} : opK P fid ⟨d, .store t a x, ty, ps, af, g⟩ st K = (tin P t = true ∧ storeK st.hp (tsz P t) (st.ev a) (st.ev x) (fun h => K ((st.withHp h).put d .un))) := propext Iff.rfl
@[go_sem ↓, go_sem] theorem opK_binOp {op xt x y yt} : opK P fid ⟨d, .binOp op xt x y yt, ty, ps, af, g⟩ st K = binK (EqI.mk' P xt y) op (st.ev x) (st.ev y) (fun v => K (st.put d v)) := propext Iff.rfl
@[go_sem ↓, go_sem] theorem opK_unOp {op xt x} : opK P fid ⟨d, .unOp op xt x, ty, ps, af, g⟩ st K = unK op (st.ev x) (fun v => K (st.put d v)) := propext Iff.rfl
@[go_sem ↓, go_sem] theorem opK_makeFunc {fn first caps} : opK P fid ⟨d, .makeFunc fn first caps, ty, ps, af, g⟩ st K = (first.isEmpty = true ∧ letL (caps.toList.map st.ev) (fun vs => K (st.put d (.fn fn vs)))) := propext Iff.rfl
@[go_sem ↓, go_sem] theorem fieldAddrO_some {off n t a K} : fieldAddrO (some (off, n, t)) a K = fieldAddrK off a K := propext Iff.rfl
@[go_sem ↓, go_sem] theorem opK_fieldAddr {s x f} : opK P fid ⟨d, .fieldAddr s x f, ty, ps, af, g⟩ st K = fieldAddrO (fof P s f) (st.ev x) (fun v => K (st.put d v)) := propext Iff.rfl
@[go_sem ↓, go_sem] theorem indexAddrO_a {n e h x ix K} : indexAddrO P (.array n e) h x ix K = (2 ≤ n ∧ tin P e = true ∧ 0 < tsz P e ∧ indexAddrK h (some n) (tsz P e) x ix K) := propext Iff.rfl
@[go_sem ↓, go_sem] theorem indexAddrO_s {e h x ix K} : indexAddrO P (.slice e) h x ix K = (tin P e = true ∧ 0 < tsz P e ∧ indexAddrK h .none (tsz P e) x ix K) := propext Iff.rfl
@[go_sem ↓, go_sem] theorem opK_indexAddr {t x ix} : opK P fid ⟨d, .indexAddr t x ix, ty, ps, af, g⟩ st K = indexAddrO P (tk P t) st.hp (st.ev x) (st.ev ix) (fun v => K (st.put d v)) := propext Iff.rfl
@[go_sem ↓, go_sem] theorem callV_fn {gg caps args h K} : callV P (.fn (.func gg) caps) args h K = (hasBody P gg = true ∧ CallX P gg (args ++ caps) h K ⟨⟩) := propext Iff.rfl
@[go_sem ↓, go_sem] theorem opK_call {f args ats} : opK P fid ⟨d, .call ⟨.value f, args, ats⟩, ty, ps, af, g⟩ st K = callV P (st.ev f) (args.toList.map st.ev) st.hp (fun r h => K ((st.withHp h).put d r)) := propext Iff.rfl
@[go_sem ↓, go_sem] theorem lenO_s {e h x K} : lenO (.slice e) h x K = lenK h x K := propext Iff.rfl
@[go_sem ↓, go_sem] theorem opK_len {x t} : opK P fid ⟨d, .call ⟨.builtin .len, #[x], #[t]⟩, ty, ps, af, g⟩ st K = lenO (tk P t) st.hp (st.ev x) (fun v => K (st.put d v)) := propext Iff.rfl
@[go_sem ↓, go_sem] theorem opK_build {t parts} : opK P fid ⟨d, .build t parts, ty, ps, af, g⟩ st K = buildK P (tk P t) t st.ev parts.toList (fun v => K (st.put d v)) := propext Iff.rfl
@[go_sem ↓, go_sem] theorem opK_buildSlice {t n parts} : opK P fid ⟨d, .buildSlice t n parts, ty, ps, af, g⟩ st K = buildSliceK P (tk P t) n st.ev parts.toList (fun v => K (st.put d v)) := propext Iff.rfl
@[go_sem ↓, go_sem] theorem opK_nilCheck {x} : opK P fid ⟨d, .nilCheck x, ty, ps, af, g⟩ st K = nilCheckK (st.ev x) (fun v => K (st.put d v)) := propext Iff.rfl
@[go_sem ↓, go_sem] theorem opK_extract {x i} : opK P fid ⟨d, .extract x i, ty, ps, af, g⟩ st K = extractK (st.ev x) i (fun v => K (st.put d v)) := propext Iff.rfl
def appendA (P : Program) (fid s : Nat) (ats : List TypeId) (args : List AV) (h : Hp) (K : AV → Hp → Prop) : Prop := match args, ats with
    | [x, y], [t, u] => appendO P (tk P t) (tk P u) h fid s x y K
    | _, _ => False
@[go_sem ↓, go_sem] theorem appendA_eq {fid s t u x y h} {K : AV → Hp → Prop} : appendA P fid s [t, u] [x, y] h K = appendO P (tk P t) (tk P u) h fid s x y K := propext Iff.rfl
@[go_sem ↓, go_sem] theorem opK_append {args ats} : opK P fid ⟨d, .call ⟨.builtin .append, args, ats⟩, ty, ps, af, g⟩ st K = appendA P fid (d.getD 0) ats.toList (args.toList.map st.ev) st.hp (fun r h => K ((st.withHp h).put d r)) := propext Iff.rfl
@[go_sem ↓, go_sem] theorem appendO_s {e u h f s x y} {K : AV → Hp → Prop} : appendO P (.slice e) (.slice u) h f s x y K = (tok P e = true ∧ appendK h f s (tsz P e) (tbytes P e) x y K) := propext Iff.rfl
@[go_sem ↓, go_sem] theorem appendK_eq {h f s sz bytes x y} {K : AV → Hp → Prop} : appendK h f s sz bytes x y K = appendY (elemsOf h y) sz (fun ys => appendX h f s sz bytes x ys K) := propext Iff.rfl
@[go_sem ↓, go_sem] theorem appendY_s {sz' ys sz} {K : List AV → Prop} : appendY (some (sz', ys)) sz K = ((ys ≠ [] → sz' = sz) ∧ K ys) := propext Iff.rfl
@[go_sem] theorem elemsOf_l {h a b c} : elemsOf h (.l a b c) = some (b, c) := by simp [elemsOf]
@[go_sem ↓, go_sem] theorem appendX_l {h f s sz bytes a ys} {K : AV → Hp → Prop} : appendX h f s sz bytes (.l true a []) ys K = (ys.length * bytes ≤ 2 ^ 47 ∧ ys.length < 2 ^ 62 ∧ 0 < bytes ∧ K (.os (h.fresh f s)) (h.alloc f s (.arr sz ys))) := propext Iff.rfl
@[go_sem ↓, go_sem] theorem frzL_eq {h x y t u} {K : AV → Prop} : frzL P h [x, y] [t, u] K = frzA P (tk P t) (tk P u) h x y K := propext Iff.rfl
@[go_sem ↓, go_sem] theorem frzA_s {e u h x y} {K : AV → Prop} : frzA P (.slice e) (.slice u) h x y K = (tok P e = true ∧ appendY (elemsOf h y) (tsz P e) (fun ys => frzX (tsz P e) (tbytes P e) x ys K)) := propext Iff.rfl
@[go_sem ↓, go_sem] theorem frzX_l {sz bytes a ys} {K : AV → Prop} : frzX sz bytes (.l true a []) ys K = (ys.length * bytes ≤ 2 ^ 47 ∧ ys.length < 2 ^ 62 ∧ 0 < bytes ∧ K (.l false sz ys)) := propext Iff.rfl
@[congr] theorem frzL_congr {h h' : Hp} {x x' : List AV} {y y' : List TypeId} {K : AV → Prop} (e : h = h') (e0 : x = x') (e1 : y = y') : frzL P h x y K = frzL P h' x' y' K := by subst e; subst e0; subst e1; rfl
@[congr] theorem frzA_congr {k k' u u' : TK} {h h' : Hp} {x x' y y' : AV} {K : AV → Prop} (e : k = k') (e1 : u = u') (e2 : h = h') (e3 : x = x') (e4 : y = y') : frzA P k u h x y K = frzA P k' u' h' x' y' K := by subst e; subst e1; subst e2; subst e3; subst e4; rfl
@[go_sem ↓, go_sem] theorem buildSliceK_s {k n ev parts} {K : AV → Prop} : buildSliceK P (.slice k) n ev parts K = (tok P k = true ∧ 0 < tsz P k ∧ inOrder 0 parts = true ∧ parts.length = n ∧ n * tsz P k ≤ 2 ^ 24 ∧
        partsK (tsz P k) (parts.map (fun p => ev p.2)) ∧ letL (parts.map (fun p => ev p.2)) (fun vs => K (.l true (tsz P k) vs))) := propext Iff.rfl
@[go_sem ↓, go_sem] theorem buildK_s {t ev parts} {K : AV → Prop} : buildK P .struct t ev parts K = (tok P t = true ∧ fsIn P t = true ∧ fillK (fun i => (fof P t i).map fun x => (x.1, x.2.1)) (tzero P t).cells ev parts (fun cs => K (.agg cs))) := propext Iff.rfl
@[go_sem ↓, go_sem] theorem fillK_nil {place cs ev} {K : List AV → Prop} : fillK place cs ev [] K = K cs := by simp [fillK]
def fillP (p : Option (Nat × Nat)) (cs : List AV) (x : AV) (K : List AV → Prop) : Prop := match p with
    | some (off, n) => x.cells.length = n ∧ x.cells.all AV.isCell = true ∧ off + n ≤ cs.length ∧ K (setRange cs off x.cells)
    | .none => False
@[go_sem ↓, go_sem] theorem fillP_s {off n cs x} {K : List AV → Prop} : fillP (some (off, n)) cs x K = (x.cells.length = n ∧ x.cells.all AV.isCell = true ∧ off + n ≤ cs.length ∧ K (setRange cs off x.cells)) := propext Iff.rfl
@[go_sem ↓, go_sem] theorem fillK_cons {place cs ev i x r} {K : List AV → Prop} : fillK place cs ev ((i, x) :: r) K = fillP (place i) cs (ev x) (fun cs => fillK place cs ev r K) := by
  simp only [fillK, fillP]
  cases place i <;> rfl
@[go_sem] theorem inOrder_nil {k} : inOrder k [] = true := by simp [inOrder]
@[go_sem] theorem inOrder_cons {k i x r} : inOrder k ((i, x) :: r) = ((i == k) && inOrder (k + 1) r) := by simp [inOrder]
@[go_sem] theorem partsK_nil {n} : partsK n [] = True := by simp [partsK]
@[go_sem] theorem partsK_cons {n x r} : partsK n (x :: r) = (x.cells.length = n ∧ x.cells.all AV.isCell = true ∧ partsK n r) := propext Iff.rfl
@[go_sem ↓, go_sem] theorem extractK_t {vs i} {K : AV → Prop} : extractK (.tup vs) i K = (i < vs.length ∧ K (vs.getD i .undef)) := by
  simp only [extractK, eq_iff_iff]
  constructor
  · rintro ⟨hi, hk⟩; exact ⟨hi, by rw [List.getD_eq_getElem?_getD, List.getElem?_eq_getElem hi]; exact hk⟩
  · rintro ⟨hi, hk⟩; exact ⟨hi, by rw [List.getD_eq_getElem?_getD, List.getElem?_eq_getElem hi] at hk; exact hk⟩
@[go_sem ↓, go_sem] theorem nilCheckK_ip {cs} {K : AV → Prop} : nilCheckK (.ip cs) K = K (.ip cs) := propext Iff.rfl
@[go_sem ↓, go_sem] theorem nilCheckK_pt {L a b c} {K : AV → Prop} : nilCheckK (.pt L a b c) K = K (.pt L a b c) := propext Iff.rfl
end ops

@[go_sem] theorem ev_tmp {st : St} {t} : st.ev (.tmp t) = st.slots t := by simp [St.ev]
@[go_sem] theorem ev_const {st : St} {v} : st.ev (.const v) = AV.ofVal v := by simp [St.ev]
@[go_sem] theorem ev_func {st : St} {f} : st.ev (.func f) = .fn (.func f) [] := by simp [St.ev]
@[go_sem] theorem ofVal_int {k n} : AV.ofVal (.int k n) = .int k n := by simp [AV.ofVal]
@[go_sem] theorem ofVal_bool {b} : AV.ofVal (.bool b) = .bool b := by simp [AV.ofVal]
@[go_sem] theorem ofVal_nilp : AV.ofVal (.pointer .none) = .nilp := by simp [AV.ofVal]
@[go_sem] theorem ofVal_nils : AV.ofVal (.slice .none 0 0) = .l true 0 [] := by simp [AV.ofVal]

section ks
variable {h : Hp} {K : AV → Prop}
@[go_sem ↓, go_sem] theorem loadK_ip {gg n cs} : loadK h gg n (.ip cs) K = (n ≤ cs.length ∧ 0 < n ∧ K (part gg n cs 0)) := propext Iff.rfl
@[go_sem ↓, go_sem] theorem loadC_blk {cs gg n sz i j} : loadC (.blk cs) gg n sz i j K = (i = 0 ∧ j + n ≤ cs.length ∧ 0 < n ∧ K (part gg n cs j)) := propext Iff.rfl
@[go_sem ↓, go_sem] theorem loadC_arr {sz' xs gg n sz i j} : loadC (.arr sz' xs) gg n sz i j K = (sz' = sz ∧ ∃ hi : i < xs.length, j + n ≤ sz ∧ 0 < n ∧ K (part gg n (xs[i]).cells j)) := propext Iff.rfl
@[go_sem ↓, go_sem] theorem loadK_pt {gg n L sz i j} : loadK h gg n (.pt L sz i j) K = loadC (h.con L) gg n sz i j K := propext Iff.rfl
@[go_sem ↓, go_sem] theorem storeK_eq {n a v} {K : Hp → Prop} : storeK h n a v K = (v.cells.length = n ∧ v.cells.all AV.isCell = true ∧ storeP h n a v.cells K) := propext Iff.rfl
@[go_sem ↓, go_sem] theorem storeP_pt {n L sz i j vs} {K : Hp → Prop} : storeP h n (.pt L sz i j) vs K = storeC (h.con L) h L n sz i j vs K := propext Iff.rfl
@[go_sem ↓, go_sem] theorem storeC_blk {cs L n sz i j vs} {K : Hp → Prop} : storeC (.blk cs) h L n sz i j vs K = (i = 0 ∧ j + n ≤ cs.length ∧ K (h.set L (.blk (setRange cs j vs)))) := propext Iff.rfl
@[go_sem ↓, go_sem] theorem storeC_arr {sz' xs L n sz i j vs} {K : Hp → Prop} : storeC (.arr sz' xs) h L n sz i j vs K = (sz' = sz ∧ ∃ hi : i < xs.length, j + n ≤ sz ∧ K (h.set L (.arr sz (xs.set i ((xs[i]).over j vs))))) := propext Iff.rfl
@[go_sem] theorem setRange_nil {cs j} : setRange cs j [] = cs := by simp [setRange]
@[go_sem] theorem setRange_cons {cs j v vs} : setRange cs j (v :: vs) = setRange (cs.set j v) (j + 1) vs := by simp [setRange]
@[go_sem ↓, go_sem] theorem indexAddrK_os {m L kk i} : indexAddrK h .none m (.os L) (.int kk i) K = indexC (h.con L) L m i K := propext Iff.rfl
@[go_sem ↓, go_sem] theorem indexC_arr {L m i sz xs} : indexC (.arr sz xs) L m i K = (sz = m ∧ 0 ≤ i ∧ i.toNat < xs.length ∧ K (.pt L sz i.toNat 0)) := propext Iff.rfl
@[go_sem ↓, go_sem] theorem lenK_os {L} : lenK h (.os L) K = lenC (h.con L) K := propext Iff.rfl
@[go_sem ↓, go_sem] theorem lenC_arr {sz xs} : lenC (.arr sz xs) K = K (.int .i64 xs.length) := propext Iff.rfl
@[go_sem] theorem cells_agg {cs} : (AV.agg cs).cells = cs := by simp [AV.cells]
@[go_sem] theorem cells_int {k n} : (AV.int k n).cells = [.int k n] := by simp [AV.cells]
@[go_sem] theorem cells_bool {b} : (AV.bool b).cells = [.bool b] := by simp [AV.cells]
@[go_sem] theorem cells_l {a b c} : (AV.l a b c).cells = [.l a b c] := by simp [AV.cells]
@[go_sem] theorem cells_os {L} : (AV.os L).cells = [.os L] := by simp [AV.cells]
@[go_sem] theorem cells_ip {c} : (AV.ip c).cells = [.ip c] := by simp [AV.cells]
@[go_sem] theorem isCell_int {k n} : (AV.int k n).isCell = true := by simp [AV.isCell]
@[go_sem] theorem isCell_bool {b} : (AV.bool b).isCell = true := by simp [AV.isCell]
@[go_sem] theorem isCell_l {a b c} : (AV.l a b c).isCell = true := by simp [AV.isCell]
@[go_sem] theorem isCell_os {L} : (AV.os L).isCell = true := by simp [AV.isCell]
@[go_sem] theorem isCell_ip {c} : (AV.ip c).isCell = true := by simp [AV.isCell]
@[go_sem ↓, go_sem] theorem boxK_eq {x} {K : List AV → Prop} : boxK x K = (x.cells.all AV.isCell = true ∧ K x.cells) := propext Iff.rfl
@[go_sem] theorem part_agg {n cs j} : part true n cs j = .agg ((cs.drop j).take n) := by simp [part]
@[go_sem] theorem part_one {n cs j} : part false n cs j = cs.getD j .undef := by simp [part]
@[go_sem ↓, go_sem] theorem fieldAddrK_ip {off cs} : fieldAddrK off (.ip cs) K = K (.ip (cs.drop off)) := propext Iff.rfl
@[go_sem ↓, go_sem] theorem fieldAddrK_pt {off L sz i j} : fieldAddrK off (.pt L sz i j) K = K (.pt L sz i (j + off)) := propext Iff.rfl
@[go_sem ↓, go_sem] theorem indexAddrK_l {m ex sz xs k i} : indexAddrK h .none m (.l ex sz xs) (.int k i) K = (sz = m ∧ 0 ≤ i ∧ ∃ hi : i.toNat < xs.length, K (.ip (xs[i.toNat]).cells)) := propext Iff.rfl
@[go_sem ↓, go_sem] theorem lenK_l {ex sz xs} : lenK h (.l ex sz xs) K = K (.int .i64 xs.length) := propext Iff.rfl
@[go_sem ↓, go_sem] theorem unK_not {b} : unK .not (.bool b) K = K (.bool (!b)) := propext Iff.rfl
section bin
variable {q : EqI} {k : IntKind} {a b : Int}
@[go_sem ↓, go_sem] theorem binK_add : binK q .add (.int k a) (.int k b) K = K (.int k (k.wrap (a + b))) := by simp [binK, intBin]
@[go_sem ↓, go_sem] theorem binK_sub : binK q .sub (.int k a) (.int k b) K = K (.int k (k.wrap (a - b))) := by simp [binK, intBin]
@[go_sem ↓, go_sem] theorem binK_eql : binK q .eql (.int k a) (.int k b) K = K (.bool (a == b)) := by simp [binK, intBin]
@[go_sem ↓, go_sem] theorem binK_neq : binK q .neq (.int k a) (.int k b) K = K (.bool (a != b)) := by simp [binK, intBin]
@[go_sem ↓, go_sem] theorem binK_lss : binK q .lss (.int k a) (.int k b) K = K (.bool (decide (a < b))) := by simp [binK, intBin]
@[go_sem ↓, go_sem] theorem binK_leq : binK q .leq (.int k a) (.int k b) K = K (.bool (decide (a ≤ b))) := by simp [binK, intBin]
@[go_sem ↓, go_sem] theorem binK_gtr : binK q .gtr (.int k a) (.int k b) K = K (.bool (decide (a > b))) := by simp [binK, intBin]
@[go_sem ↓, go_sem] theorem binK_geq : binK q .geq (.int k a) (.int k b) K = K (.bool (decide (a ≥ b))) := by simp [binK, intBin]
end bin
end ks

section code
variable {P : Program} {fid : Nat} {T : Nat → List Tg} {Q : Ex → St → Prop} {st : St}
@[go_sem ↓, go_sem] theorem awp_skip : awp P fid T .skip Q st = Q .normal st := by simp [awp]
@[go_sem ↓, go_sem] theorem awp_region {id l dr} : awp P fid T (.region id (List.toArray l) dr) Q st = opsR P fid (T id) (hidN 0) [] l st (Q .normal) := by
  unfold hidN; rw [← opsR_eq [] 0 rfl]; simp [awp]
@[go_sem ↓, go_sem] theorem awp_seq {a b} : awp P fid T (.seq a b) Q st = awp P fid T a (thenQ (awp P fid T b Q) Q) st := by simp [awp]
@[go_sem ↓, go_sem] theorem condK_b {t A B} : condK (.bool t) A B = ((t = true → A) ∧ (t = false → B)) := propext Iff.rfl
@[go_sem ↓, go_sem] theorem awp_cond {c a b} : awp P fid T (.cond c a b) Q st = condK (st.ev c) (awp P fid T a Q st) (awp P fid T b Q st) := by simp only [awp]
@[go_sem ↓, go_sem] theorem awp_block {id c} : awp P fid T (.block id c) Q st = awp P fid T c (blockQ id Q) st := by simp [awp]
@[go_sem ↓, go_sem] theorem awp_exit {id} : awp P fid T (.exit id) Q st = Q (.exit id) st := by simp [awp]
@[go_sem ↓, go_sem] theorem awp_label {l} : awp P fid T (.label l) Q st = Q .normal st := by simp [awp]
@[go_sem ↓, go_sem] theorem awp_scope {c} : awp P fid T (.scope c) Q st = awp P fid T c Q st := by simp [awp]
@[go_sem ↓, go_sem] theorem awp_ret : awp P fid T .ret Q st = Q .ret st := by simp [awp]
theorem awp_loop {c} : awp P fid T (.loop c) Q st = ∃ (I : St → Prop) (μ : St → Nat), I st ∧ ∀ s, I s → awp P fid T c (thenQ (fun s' => I s' ∧ μ s' < μ s) Q) s := by simp [awp]
@[go_sem ↓, go_sem] theorem thenQ_n {N} : thenQ N Q .normal st = N st := by simp [thenQ]
@[go_sem ↓, go_sem] theorem thenQ_e {N id} : thenQ N Q (.exit id) st = Q (.exit id) st := by simp [thenQ]
@[go_sem ↓, go_sem] theorem thenQ_r {N} : thenQ N Q .ret st = Q .ret st := by simp [thenQ]
@[go_sem ↓, go_sem] theorem blockQ_n {id} : blockQ id Q .normal st = Q .normal st := by simp [blockQ]
@[go_sem ↓, go_sem] theorem blockQ_e {id id'} : blockQ id Q (.exit id') st = if id' = id then Q .normal st else Q (.exit id') st := by simp [blockQ]
@[go_sem ↓, go_sem] theorem blockQ_r {id} : blockQ id Q .ret st = Q .ret st := by simp [blockQ]
@[go_sem] theorem sucN_eq {n} : sucN n = n + 1 := by simp [sucN]
@[go_sem] theorem hidN_eq {n} : hidN n = n := by simp [hidN]
@[go_sem ↓, go_sem] theorem opsR_nil {tg n done K} : opsR P fid tg n done [] st K = K st := by simp [opsR]
@[go_sem] theorem opsR_plain {n done d op ty ps af r K} : opsR P fid [] n done (⟨d, op, ty, ps, af, .none⟩ :: r) st K = opK P fid ⟨d, op, ty, ps, af, .none⟩ st (fun st' => opsR P fid [] (sucN n) (d :: done) r st' K) := by
  simp only [opsR, guardG, headT, tailT, opT, sucN]
@[go_sem] theorem opsR_tag {t tg n done d op ty ps af r K} : opsR P fid (t :: tg) n done (⟨d, op, ty, ps, af, .none⟩ :: r) st K = opT P fid t ⟨d, op, ty, ps, af, .none⟩ st (fun st' => opsR P fid tg (sucN n) (d :: done) r st' K) := by
  simp only [opsR, guardG, headT, tailT, sucN]
@[congr] theorem opsR_congr {tg tg' : List Tg} {n n' : Nat} {done : List (Option Nat)} {l : List Oper} {K : St → Prop} (e1 : tg = tg') (e2 : n = n') : opsR P fid tg n done l st K = opsR P fid tg' n' done l st K := by
  subst e1; subst e2; rfl
@[go_sem ↓, go_sem] theorem opT_plain {o K} : opT P fid .plain o st K = opK P fid o st K := by simp [opT]
@[go_sem ↓, go_sem] theorem opT_pure {d f args ats ty ps af g K} : opT P fid .pure ⟨d, .call ⟨.value f, args, ats⟩, ty, ps, af, g⟩ st K = pureK P (st.ev f) (args.toList.map st.ev) (fun v => K (st.put d v)) := by simp [opT, pureO]
@[go_sem ↓, go_sem] theorem pureK_fn {gg caps args} {K : AV → Prop} : pureK P (.fn (.func gg) caps) args K = (hasBody P gg = true ∧ PureX P gg (args ++ caps) K ⟨⟩) := propext Iff.rfl
@[go_sem ↓, go_sem] theorem opT_blk {d t a ty ps af g K} : opT P fid .blk ⟨d, .load t a, ty, ps, af, g⟩ st K = (blkK st.hp (st.ev a) ∧ opK P fid ⟨d, .load t a, ty, ps, af, g⟩ st K) := by simp [opT, blkO]
@[go_sem ↓, go_sem] theorem opT_frz {d args ats ty ps af g K} : opT P fid .frz ⟨d, .call ⟨.builtin .append, args, ats⟩, ty, ps, af, g⟩ st K = frzL P st.hp (args.toList.map st.ev) ats.toList (fun v => K (st.put d v)) := by simp [opT, frzO]
@[go_sem] theorem blkK_pt {h L a b c} : blkK h (.pt L a b c) = isBlk (h.con L) := by simp [blkK]
@[go_sem] theorem isBlk_blk {cs} : isBlk (.blk cs) = True := by simp [isBlk]
@[congr] theorem pureK_congr {f f' : AV} {args args' : List AV} {K : AV → Prop} (e : f = f') (e1 : args = args') : pureK P f args K = pureK P f' args' K := by subst e; subst e1; rfl
@[go_sem ↓, go_sem] theorem guardK_b {b want A B C} : guardK (.bool b) want A B C = ((b = want → A) ∧ (b = !want → B)) := propext Iff.rfl
@[go_sem ↓ high, go_sem high] theorem guardK_tt {A B C} : guardK (.bool true) true A B C = A := by simp [guardK]
@[go_sem ↓ high, go_sem high] theorem guardK_ff {A B C} : guardK (.bool false) false A B C = A := by simp [guardK]
@[go_sem ↓ high, go_sem high] theorem guardK_tf {A B C} : guardK (.bool true) false A B C = B := by simp [guardK]
@[go_sem ↓ high, go_sem high] theorem guardK_ft {A B C} : guardK (.bool false) true A B C = B := by simp [guardK]
@[go_sem ↓ high, go_sem high] theorem condK_t {A B} : condK (.bool true) A B = A := by simp [condK]
@[go_sem ↓ high, go_sem high] theorem condK_f {A B} : condK (.bool false) A B = B := by simp [condK]
@[go_sem ↓, go_sem] theorem guardK_u {want A B C} : guardK .un want A B C = C := propext Iff.rfl
@[go_sem ↓, go_sem] theorem guardO_some {d f} : guardO (some d) f = f d := propext Iff.rfl
@[go_sem] theorem opsR_guard {n done d op ty ps af j want r K} : opsR P fid [] n done (⟨d, op, ty, ps, af, some (j, want)⟩ :: r) st K =
    guardO (nthR done n j) (fun q => guardK (st.slots q) want
      (opK P fid ⟨d, op, ty, ps, af, some (j, want)⟩ (st.put (some q) (.bool want)) (fun st' => opsR P fid [] (sucN n) (d :: done) r st' K))
      (opsR P fid [] (sucN n) (d :: done) r ((st.put (some q) (.bool (!want))).put d .un) K)
      (opsR P fid [] (sucN n) (d :: done) r (st.put d .un) K)) := by
  simp only [opsR, guardG, headT, tailT, opT, sucN]
@[go_sem] theorem opsR_guardT {t tg n done d op ty ps af j want r K} : opsR P fid (t :: tg) n done (⟨d, op, ty, ps, af, some (j, want)⟩ :: r) st K =
    guardO (nthR done n j) (fun q => guardK (st.slots q) want
      (opT P fid t ⟨d, op, ty, ps, af, some (j, want)⟩ (st.put (some q) (.bool want)) (fun st' => opsR P fid tg (sucN n) (d :: done) r st' K))
      (opsR P fid tg (sucN n) (d :: done) r ((st.put (some q) (.bool (!want))).put d .un) K)
      (opsR P fid tg (sucN n) (d :: done) r (st.put d .un) K)) := by
  simp only [opsR, guardG, headT, tailT, sucN]
@[go_sem ↓, go_sem] theorem nthR_cons {d r n j} : nthR (d :: r) n j = selO (j + 1 == n) d (nthR r (n - 1) j) := by
  simp only [nthR, selO]
@[go_sem ↓, go_sem] theorem selO_t {v w} : selO true v w = v := by simp [selO]
@[go_sem ↓, go_sem] theorem selO_f {v w} : selO false v w = w := by simp [selO]
@[congr] theorem selO_congr {b b' : Bool} {v w : Option Nat} (e : b = b') : selO b v w = selO b' v w := by subst e; rfl
end code
@[go_sem] theorem alloc_con {h : Hp} {f s c L} : (h.alloc f s c).con L = if L = ⟨f, s, h.cnt f s⟩ then c else h.con L := by simp [Hp.alloc]
@[go_sem] theorem set_con {h : Hp} {M c L} : (h.set M c).con L = if L = M then (h.con M).keep c else h.con L := by simp [Hp.set]
@[go_sem] theorem keep_blk {cs c} : (Con.blk cs).keep c = c := by simp [Con.keep]
@[go_sem] theorem keep_arr {sz xs c} : (Con.arr sz xs).keep c = c := by simp [Con.keep]
@[go_sem] theorem keep_mp {es ck c} : (Con.mp es ck).keep c = c := by simp [Con.keep]
@[go_sem] theorem fresh_eq {h : Hp} {f s} : h.fresh f s = ⟨f, s, h.cnt f s⟩ := by simp [Hp.fresh]
@[go_sem] theorem alloc_cnt {h : Hp} {f s c g t} : (h.alloc f s c).cnt g t = if g = f ∧ t = s then h.cnt f s + 1 else h.cnt g t := by simp [Hp.alloc]
@[go_sem] theorem set_cnt {h : Hp} {M c g t} : (h.set M c).cnt g t = h.cnt g t := by simp [Hp.set]
@[go_sem] theorem enter_slots {args h i} : (enter args h).slots i = args.getD i .un := by simp [enter]
@[go_sem] theorem enter_hp {args h} : (enter args h).hp = h := by simp [enter]


section maps
variable {P : Program} {fid : Nat} {d : Option Nat} {ty : TypeId} {ps : String} {af : Array Edge} {g : Option (Nat × Bool)} {st : St} {K : St → Prop} {h : Hp}
@[go_sem ↓, go_sem] theorem opK_makeMap {t} : opK P fid ⟨d, .makeMap t .none, ty, ps, af, g⟩ st K = letH (hid st.hp) (fun H => K ((st.withHp (H.alloc fid (d.getD 0) (.mp [] 0))).put d (.mr (H.fresh fid (d.getD 0))))) := propext Iff.rfl
@[go_sem ↓, go_sem] theorem opK_lookup {t x ix ok} : opK P fid ⟨d, .lookup t x ix ok, ty, ps, af, g⟩ st K = lookupK P (tk P t) st.hp (st.ev x) (st.ev ix) ok (fun v => K (st.put d v)) := propext Iff.rfl
@[go_sem ↓, go_sem] theorem opK_mapEntry {t x ix} : opK P fid ⟨d, .mapEntry t x ix, ty, ps, af, g⟩ st K = mapEntryK P (tk P t) st.hp (st.ev x) (st.ev ix) (fun v h => K ((st.withHp h).put d v)) := propext Iff.rfl
@[go_sem ↓, go_sem] theorem opK_entryStore {t x s v} : opK P fid ⟨d, .entryStore t x s v, ty, ps, af, g⟩ st K = entryStoreK st.hp (st.ev x) (st.ev s) (st.ev v) (fun h => K ((st.withHp h).put d .un)) := propext Iff.rfl
@[go_sem ↓, go_sem] theorem lookupK_m {kt et x ix ok} {K : AV → Prop} : lookupK P (.map kt et) h x ix ok K = (tok P et = true ∧ keyK P kt ix (fun cs => lookM h x ok (tzero P et) cs K)) := propext Iff.rfl
@[go_sem ↓, go_sem] theorem keyK_a {kt cs} {K : List AV → Prop} : keyK P kt (.agg cs) K = (keyTy P kt = true ∧ cs.length = tsz P kt ∧ cs.all AV.isInt = true ∧ K cs) := propext Iff.rfl
@[go_sem ↓, go_sem] theorem lookM_mr {L ok z cs} {K : AV → Prop} : lookM h (.mr L) ok z cs K = lookC (h.con L) ok z cs K := propext Iff.rfl
@[go_sem ↓, go_sem] theorem lookC_mp {es ck ok z cs} {K : AV → Prop} : lookC (.mp es ck) ok z cs K = LookX cs es ok z K ⟨⟩ := propext Iff.rfl
@[go_sem ↓, go_sem] theorem mapEntryK_m {kt et x ix} {K : AV → Hp → Prop} : mapEntryK P (.map kt et) h x ix K = (tok P et = true ∧ keyK P kt ix (fun cs => entryM h x (tzero P et) cs K)) := propext Iff.rfl
@[go_sem ↓, go_sem] theorem entryM_mr {L z cs} {K : AV → Hp → Prop} : entryM h (.mr L) z cs K = entryC (h.con L) h L z cs K := propext Iff.rfl
@[go_sem ↓, go_sem] theorem entryC_mp {es ck L z cs} {K : AV → Hp → Prop} : entryC (.mp es ck) h L z cs K = EntryX h L es ck z cs K ⟨⟩ := propext Iff.rfl
@[go_sem ↓, go_sem] theorem entryStoreK_mr {L b v} {K : Hp → Prop} : entryStoreK h (.mr L) (.int .i64 b) v K = estoreC (h.con L) h L b v K := propext Iff.rfl
@[go_sem ↓, go_sem] theorem estoreC_mp {es ck L b v} {K : Hp → Prop} : estoreC (.mp es ck) h L b v K = StoreX h L es ck v b K ⟨⟩ := propext Iff.rfl
@[go_sem] theorem isInt_int {k n} : (AV.int k n).isInt = true := by simp [AV.isInt]
@[go_sem] theorem cells_mr {L} : (AV.mr L).cells = [.mr L] := by simp [AV.cells]
@[go_sem] theorem isCell_mr {L} : (AV.mr L).isCell = true := by simp [AV.isCell]
@[congr] theorem lookupK_congr {k k' : TK} {h' : Hp} {x x' ix ix' : AV} {ok : Bool} {K : AV → Prop} (e0 : k = k') (e1 : h = h') (e2 : x = x') (e3 : ix = ix') : lookupK P k h x ix ok K = lookupK P k' h' x' ix' ok K := by subst e0; subst e1; subst e2; subst e3; rfl
@[congr] theorem lookC_congr {c c' : Con} {z : AV} {ok : Bool} {cs : List AV} {K : AV → Prop} (e0 : c = c') : lookC c ok z cs K = lookC c' ok z cs K := by subst e0; rfl
@[congr] theorem mapEntryK_congr {k k' : TK} {h' : Hp} {x x' ix ix' : AV} {K : AV → Hp → Prop} (e0 : k = k') (e1 : h = h') (e2 : x = x') (e3 : ix = ix') : mapEntryK P k h x ix K = mapEntryK P k' h' x' ix' K := by subst e0; subst e1; subst e2; subst e3; rfl
@[congr] theorem entryC_congr {c c' : Con} {L : Lab} {z : AV} {cs : List AV} {K : AV → Hp → Prop} (e0 : c = c') : entryC c h L z cs K = entryC c' h L z cs K := by subst e0; rfl
@[congr] theorem entryStoreK_congr {h' : Hp} {x x' s s' v v' : AV} {K : Hp → Prop} (e0 : h = h') (e1 : x = x') (e2 : s = s') (e3 : v = v') : entryStoreK h x s v K = entryStoreK h' x' s' v' K := by subst e0; subst e1; subst e2; subst e3; rfl
@[congr] theorem estoreC_congr {c c' : Con} {L : Lab} {b : Int} {v : AV} {K : Hp → Prop} (e0 : c = c') : estoreC c h L b v K = estoreC c' h L b v K := by subst e0; rfl
end maps

section ends
variable {P : Program} {fn : Func} {r : AV} {h : Hp} {st : St}
@[go_sem ↓, go_sem] theorem endP_ret : endP P fn r h .ret st = (resK P fn.results.toList st (fun vs => oneOf vs = r) ∧ Keeps h st.hp) := by simp [endP]
@[go_sem ↓, go_sem] theorem endH_ret {K : AV → Hp → Prop} : endH P fn K .ret st = resK P fn.results.toList st (fun vs => K (oneOf vs) st.hp) := by simp [endH]
@[go_sem ↓, go_sem] theorem endH_normal {K : AV → Hp → Prop} : endH P fn K .normal st = resK P fn.results.toList st (fun vs => K (oneOf vs) st.hp) := by simp [endH]
@[go_sem ↓, go_sem] theorem resK_nil {K : List AV → Prop} : resK P [] st K = K [] := by simp [resK]
@[go_sem ↓, go_sem] theorem resK_tmp {t rs} {K : List AV → Prop} : resK P (.tmp t :: rs) st K = resK P rs st (fun vs => K (st.slots t :: vs)) := by simp [resK]
@[go_sem ↓, go_sem] theorem resK_cell {a t rs} {K : List AV → Prop} : resK P (.cell a t :: rs) st K = (tin P t = true ∧ loadK st.hp (tk P t).agg (tsz P t) (st.slots a) (fun v => resK P rs st (fun vs => K (v :: vs)))) := by simp [resK]
@[congr] theorem resK_congr {rs rs' : List ResultVar} {K : List AV → Prop} (e : rs = rs') : resK P rs st K = resK P rs' st K := by subst e; rfl
@[go_sem] theorem oneOf_one {v} : oneOf [v] = v := by simp [oneOf]
@[go_sem] theorem oneOf_two {u v} : oneOf [u, v] = .tup [u, v] := by simp [oneOf]
end ends

section more
variable {P : Program} {K : AV → Prop} {h : Hp} {q : EqI} {k : IntKind} {a b : Int} {op : BinOp}
@[go_sem ↓, go_sem] theorem indexAddrK_apt {n m L sz i' j kk i} : indexAddrK h (some n) m (.pt L sz i' j) (.int kk i) K = (0 ≤ i ∧ i < n ∧ K (.pt L sz i' (j + i.toNat * m))) := propext Iff.rfl
@[go_sem ↓, go_sem] theorem fieldO_s {off n t cs} : fieldO P (some (off, n, t)) (.agg cs) K = (off + n ≤ cs.length ∧ K (part (tk P t).agg n cs off)) := propext Iff.rfl
section op1
variable {d : Option Nat} {ty : TypeId} {ps : String} {af : Array Edge} {g : Option (Nat × Bool)} {st : St} {K : St → Prop} {fid : Nat}
@[go_sem ↓, go_sem] theorem opK_field {s x f} : opK P fid ⟨d, .field s x f, ty, ps, af, g⟩ st K = fieldO P (fof P s f) (st.ev x) (fun v => K (st.put d v)) := propext Iff.rfl
@[go_sem ↓, go_sem] theorem opK_makeSlice {t n c} : opK P fid ⟨d, .makeSlice t n c, ty, ps, af, g⟩ st K = makeSliceO P (tk P t) st.hp fid (d.getD 0) (st.ev n) (st.ev c) (fun v h => K ((st.withHp h).put d v)) := propext Iff.rfl
end op1
@[go_sem ↓, go_sem] theorem makeSliceO_s {e f s n c} {K : AV → Hp → Prop} : makeSliceO P (.slice e) h f s n c K = (tok P e = true ∧ makeSliceK h f s (tsz P e) (tbytes P e) (tzero P e) n c K) := propext Iff.rfl
@[go_sem ↓, go_sem] theorem makeSliceK_i {f s sz bytes z} {K : AV → Hp → Prop} : makeSliceK h f s sz bytes z (.int .i64 a) (.int .i64 b) K = (a = b ∧ 0 ≤ a ∧ a * bytes ≤ 2 ^ 47 ∧ a < 2 ^ 62 ∧ z.cells.length = sz ∧ 0 < sz ∧
      K (.os (h.fresh f s)) (h.alloc f s (.arr sz (List.replicate a.toNat z)))) := propext Iff.rfl
def eqR (r : Option Bool) (K : Bool → Prop) : Prop := match r with
  | some b => K b
  | .none => False
theorem eqR_ex {r : Option Bool} {K : Bool → Prop} : (∃ b, r = some b ∧ K b) = eqR r K := by
  cases r with
  | none => simp [eqR]
  | some b => simp [eqR]
@[go_sem ↓, go_sem] theorem eqR_some {b} {K : Bool → Prop} : eqR (some b) K = K b := propext Iff.rfl
@[congr] theorem eqR_congr {r r' : Option Bool} {K : Bool → Prop} (e : r = r') : eqR r K = eqR r' K := by subst e; rfl
@[go_sem ↓, go_sem] theorem binK_gneq {t y cs ds} : binK (EqI.mk' P t y) .neq (.agg cs) (.agg ds) K = (structEq P t = true ∧ 0 < tsz P t ∧ cs.length = tsz P t ∧ eqR (cellsEq cs ds) (fun b => K (.bool (!b)))) := by
  rw [← eqR_ex]
  simp only [binK, EqI.mk']
  unfold eqK
  cases tk P t <;> rfl
@[go_sem] theorem cellsEq_cons {k a b r s} : cellsEq (.int k a :: r) (.int k b :: s) = (cellsEq r s).map (fun t => (a == b) && t) := by simp [cellsEq]
@[go_sem] theorem cellsEq_nil : cellsEq [] [] = some true := by simp [cellsEq]
end more

/- What simp looks at: what a rule hangs on, never what follows. -/
@[congr] theorem loadK_congr {h h' : Hp} {g g' : Bool} {n n' : Nat} {a a' : AV} {K : AV → Prop} (e0 : h = h') (e1 : g = g') (e2 : n = n') (e3 : a = a') : loadK h g n a K = loadK h' g' n' a' K := by
  subst e0; subst e1; subst e2; subst e3; rfl
@[congr] theorem loadC_congr {c c' : Con} {g g' : Bool} {n : Nat} {sz : Nat} {i : Nat} {j : Nat} {K : AV → Prop} (e0 : c = c') (e1 : g = g') : loadC c g n sz i j K = loadC c' g' n sz i j K := by
  subst e0; subst e1; rfl
@[congr] theorem storeP_congr {h h' : Hp} {n : Nat} {a a' : AV} {vs vs' : List AV} {K : Hp → Prop} (e0 : h = h') (e1 : a = a') (e2 : vs = vs') : storeP h n a vs K = storeP h' n a' vs' K := by
  subst e0; subst e1; subst e2; rfl
@[congr] theorem storeC_congr {c c' : Con} {h : Hp} {L : Lab} {n : Nat} {sz : Nat} {i : Nat} {j : Nat} {vs : List AV} {K : Hp → Prop} (e0 : c = c') : storeC c h L n sz i j vs K = storeC c' h L n sz i j vs K := by
  subst e0; rfl
@[congr] theorem pickK_congr {c c' : AV} {a a' : AV} {b b' : AV} {K : AV → Prop} (e0 : c = c') (e1 : a = a') (e2 : b = b') : pickK c a b K = pickK c' a' b' K := by
  subst e0; subst e1; subst e2; rfl
@[congr] theorem fieldAddrO_congr {o o' : Option (Nat × Nat × TypeId)} {a a' : AV} {K : AV → Prop} (e0 : o = o') (e1 : a = a') : fieldAddrO o a K = fieldAddrO o' a' K := by
  subst e0; subst e1; rfl
@[congr] theorem indexAddrO_congr {P : Program} {k k' : TK} {h h' : Hp} {x x' : AV} {ix ix' : AV} {K : AV → Prop} (e0 : k = k') (e1 : h = h') (e2 : x = x') (e3 : ix = ix') : indexAddrO P k h x ix K = indexAddrO P k' h' x' ix' K := by
  subst e0; subst e1; subst e2; subst e3; rfl
@[congr] theorem indexAddrK_congr {h h' : Hp} {o o' : Option Nat} {m m' : Nat} {x x' : AV} {ix ix' : AV} {K : AV → Prop} (e0 : h = h') (e1 : o = o') (e2 : m = m') (e3 : x = x') (e4 : ix = ix') : indexAddrK h o m x ix K = indexAddrK h' o' m' x' ix' K := by
  subst e0; subst e1; subst e2; subst e3; subst e4; rfl
@[congr] theorem indexC_congr {c c' : Con} {L : Lab} {m : Nat} {i : Int} {K : AV → Prop} (e0 : c = c') : indexC c L m i K = indexC c' L m i K := by
  subst e0; rfl
@[congr] theorem callV_congr {P : Program} {f f' : AV} {args args' : List AV} {h h' : Hp} {K : AV → Hp → Prop} (e0 : f = f') (e1 : args = args') (e2 : h = h') : callV P f args h K = callV P f' args' h' K := by
  subst e0; subst e1; subst e2; rfl
@[congr] theorem lenO_congr {k k' : TK} {h h' : Hp} {x x' : AV} {K : AV → Prop} (e0 : k = k') (e1 : h = h') (e2 : x = x') : lenO k h x K = lenO k' h' x' K := by
  subst e0; subst e1; subst e2; rfl
@[congr] theorem lenK_congr {h h' : Hp} {x x' : AV} {K : AV → Prop} (e0 : h = h') (e1 : x = x') : lenK h x K = lenK h' x' K := by
  subst e0; subst e1; rfl
@[congr] theorem lenC_congr {c c' : Con} {K : AV → Prop} (e0 : c = c') : lenC c K = lenC c' K := by
  subst e0; rfl
@[congr] theorem appendO_congr {P : Program} {k k' : TK} {u u' : TK} {h h' : Hp} {f : Nat} {s s' : Nat} {x x' : AV} {y y' : AV} {K : AV → Hp → Prop} (e0 : k = k') (e1 : u = u') (e2 : h = h') (e3 : s = s') (e4 : x = x') (e5 : y = y') : appendO P k u h f s x y K = appendO P k' u' h' f s' x' y' K := by
  subst e0; subst e1; subst e2; subst e3; subst e4; subst e5; rfl
@[congr] theorem appendY_congr {e e' : Option (Nat × List AV)} {sz sz' : Nat} {K : List AV → Prop} (e0 : e = e') (e1 : sz = sz') : appendY e sz K = appendY e' sz' K := by
  subst e0; subst e1; rfl
@[congr] theorem appendX_congr {h h' : Hp} {f : Nat} {s s' : Nat} {sz sz' : Nat} {bytes bytes' : Nat} {x x' : AV} {ys ys' : List AV} {K : AV → Hp → Prop} (e0 : h = h') (e1 : s = s') (e2 : sz = sz') (e3 : bytes = bytes') (e4 : x = x') (e5 : ys = ys') : appendX h f s sz bytes x ys K = appendX h' f s' sz' bytes' x' ys' K := by
  subst e0; subst e1; subst e2; subst e3; subst e4; subst e5; rfl
@[congr] theorem buildSliceK_congr {P : Program} {k k' : TK} {n : Nat} {ev : Operand → AV} {parts parts' : List (Nat × Operand)} {K : AV → Prop} (e0 : k = k') (e1 : parts = parts') : buildSliceK P k n ev parts K = buildSliceK P k' n ev parts' K := by
  subst e0; subst e1; rfl
@[congr] theorem buildK_congr {P : Program} {k k' : TK} {t : TypeId} {ev : Operand → AV} {parts parts' : List (Nat × Operand)} {K : AV → Prop} (e0 : k = k') (e1 : parts = parts') : buildK P k t ev parts K = buildK P k' t ev parts' K := by
  subst e0; subst e1; rfl
@[congr] theorem fillP_congr {p p' : Option (Nat × Nat)} {cs cs' : List AV} {x x' : AV} {K : List AV → Prop} (e0 : p = p') (e1 : cs = cs') (e2 : x = x') : fillP p cs x K = fillP p' cs' x' K := by
  subst e0; subst e1; subst e2; rfl
@[congr] theorem extractK_congr {x x' : AV} {i : Nat} {K : AV → Prop} (e0 : x = x') : extractK x i K = extractK x' i K := by
  subst e0; rfl
@[congr] theorem nilCheckK_congr {x x' : AV} {K : AV → Prop} (e0 : x = x') : nilCheckK x K = nilCheckK x' K := by
  subst e0; rfl
@[congr] theorem unK_congr {op : UnOp} {x x' : AV} {K : AV → Prop} (e0 : x = x') : unK op x K = unK op x' K := by
  subst e0; rfl
@[congr] theorem binK_congr {q : EqI} {op : BinOp} {x x' : AV} {y y' : AV} {K : AV → Prop} (e0 : x = x') (e1 : y = y') : binK q op x y K = binK q op x' y' K := by
  subst e0; subst e1; rfl
@[congr] theorem condK_congr {c c' : AV} {X : Prop} {Y : Prop} (e0 : c = c') : condK c X Y = condK c' X Y := by
  subst e0; rfl
@[congr] theorem guardK_congr {c c' : AV} {want : Bool} {X : Prop} {Y : Prop} {Z : Prop} (e0 : c = c') : guardK c want X Y Z = guardK c' want X Y Z := by
  subst e0; rfl
@[congr] theorem guardO_congr {s s' : Option Nat} {f : Nat → Prop} (e0 : s = s') : guardO s f = guardO s' f := by
  subst e0; rfl
@[congr] theorem makeSliceO_congr {P : Program} {k k' : TK} {h h' : Hp} {f : Nat} {s s' : Nat} {n n' : AV} {c c' : AV} {K : AV → Hp → Prop} (e0 : k = k') (e1 : h = h') (e2 : s = s') (e3 : n = n') (e4 : c = c') : makeSliceO P k h f s n c K = makeSliceO P k' h' f s' n' c' K := by
  subst e0; subst e1; subst e2; subst e3; subst e4; rfl
/- The lists' rules, none of them by definition: what is by definition is checked by unfolding, which takes time without bound. -/
section lists
variable {α β : Type} {a b d : α} {l r : List α} {n : Nat} {f : α → β} {p : α → Bool} {x y : Bool}
@[go_sem] theorem q_getD0 : (a :: l).getD 0 d = a := by simp
@[go_sem] theorem q_getDS : (a :: l).getD (n + 1) d = l.getD n d := by simp
@[go_sem] theorem q_lenC : (a :: l).length = l.length + 1 := by simp
@[go_sem] theorem q_lenN : ([] : List α).length = 0 := by simp
@[go_sem] theorem q_appN : [] ++ l = l := by simp
@[go_sem] theorem q_appC : (a :: l) ++ r = a :: (l ++ r) := by simp
@[go_sem] theorem q_drop0 : l.drop 0 = l := by simp
@[go_sem] theorem q_dropS : (a :: l).drop (n + 1) = l.drop n := by simp
@[go_sem] theorem q_take0 : l.take 0 = [] := by simp
@[go_sem] theorem q_takeS : (a :: l).take (n + 1) = a :: l.take n := by simp
@[go_sem] theorem q_takeN : ([] : List α).take n = [] := by simp
@[go_sem] theorem q_allC : (a :: l).all p = (p a && l.all p) := by simp
@[go_sem] theorem q_allN : ([] : List α).all p = true := by simp
@[go_sem] theorem q_mapC : (a :: l).map f = f a :: l.map f := by simp
@[go_sem] theorem q_mapN : ([] : List α).map f = [] := by simp
@[go_sem] theorem q_lenM : (l.map f).length = l.length := by simp
@[go_sem] theorem q_set0 : (a :: l).set 0 b = b :: l := by simp
@[go_sem] theorem q_setS : (a :: l).set (n + 1) b = a :: l.set n b := by simp
@[go_sem] theorem q_toL : (List.toArray l).toList = l := by simp
@[go_sem] theorem q_tt : (true && x) = x := by simp
@[go_sem] theorem q_at : (x && true) = x := by simp
@[go_sem] theorem q_nt : (!true) = false := by simp
@[go_sem] theorem q_nf : (!false) = true := by simp
@[go_sem] theorem q_gs : (some a).getD d = a := by simp
@[go_sem] theorem q_ms : (some a).map f = some (f a) := by simp
@[go_sem] theorem q_it : (if True then a else b) = a := by simp
@[go_sem] theorem q_if : (if False then a else b) = b := by simp
@[go_sem] theorem q_m1 {n : Nat} : n * 1 = n := by simp
@[go_sem] theorem q_0p {n : Nat} : 0 + n = n := by simp
@[go_sem] theorem q_p0 {n : Nat} : n + 0 = n := by simp
@[go_sem] theorem q_nat {n : Nat} : ((n : Int)).toNat = n := by simp
@[go_sem] theorem q_em {i : Nat} (h : i < (l.map f).length) : (l.map f)[i] = f (l[i]'(by simpa using h)) := by simp
end lists

attribute [go_sem] true_and and_true eq_self and_self forall_const exists_const Bool.false_eq_true Bool.true_eq_false false_implies true_implies implies_true and_false false_and
  exists_prop Lab.mk.injEq Option.some.injEq reduceCtorEq

end Go.T
/- Plain: the notes of a history, the reference's answer and the ghost's own way to it. No program in sight. -/
namespace Go.Gh
set_option linter.unusedSimpArgs false

structure Note where
  kind : Int
  obj : Int
  node : Int
  num : Int
  to : Int
  next : Int
  deriving DecidableEq

def isMade (obj node : Int) (n : Note) : Bool := n.kind == 1 && n.obj == obj && n.node == node
def madeN (ns : List Note) (obj node : Int) : Nat := (ns.filter (isMade obj node)).length
def thereB (home : Int) (ns : List Note) (obj node num : Int) : Bool := (decide (1 ≤ num) && decide (num ≤ madeN ns obj node)) || (num == 0 && node == home)
/-- Where an object is, and whether it is freed, behind one more note. -/
def atStep (obj : Int) (s : Int × Int × Bool) (x : Note) : Int × Int × Bool :=
  if x.obj = obj ∧ x.kind = 4 then (x.node, x.num, false) else if x.obj = obj ∧ x.kind = 3 then (s.1, s.2.1, true) else s
def atOf (home obj : Int) (ns : List Note) : Int × Int × Bool := ns.foldl (atStep obj) (home, 0, true)
def clash (n x : Note) : Bool := x.kind == 2 && x.obj == n.obj && ((x.node == n.node && x.num == n.num) || (x.to == n.to && x.next == n.next))
def isNext (obj node num : Int) (x : Note) : Bool := x.kind == 2 && x.obj == obj && x.node == node && x.num == num
def canB (home : Int) (ns : List Note) (n : Note) : Bool :=
  if n.kind ≠ 2 ∧ (n.to ≠ 0 ∨ n.next ≠ 0) then false
  else if n.kind = 1 then decide (0 ≤ n.node) && decide (n.node < 32) && n.num == madeN ns n.obj n.node + 1
  else if n.kind = 2 then !ns.any (clash n) && n.next != 0 && thereB home ns n.obj n.node n.num && thereB home ns n.obj n.to n.next
  else if n.kind = 3 then !(atOf home n.obj ns).2.2 && n.node == (atOf home n.obj ns).1 && n.num == (atOf home n.obj ns).2.1
  else if n.kind = 4 then (match ns.find? (isNext n.obj (atOf home n.obj ns).1 (atOf home n.obj ns).2.1) with
    | some x => (atOf home n.obj ns).2.2 && x.to == n.node && x.next == n.num
    | none => false)
  else false

/-- The reference's Check. -/
def checkB (homes : List Int) (ns : List Note) (n : Note) : Bool :=
  decide (0 ≤ n.obj) && decide (n.obj < homes.length) && canB (homes.getD n.obj.toNat 0) ns n

/-- What is known of an object. -/
structure Ob where
  made : List Int
  next : List ((Int × Int) × (Int × Int))
  heirs : List ((Int × Int) × (Int × Int))
  node : Int
  num : Int
  freed : Bool
  home : Int

/- Check, aas it is answered. -/
def badHomes (homes : List Int) : Bool := decide (8 < homes.length) || homes.any (fun h => decide (h < 0) || decide (32 ≤ h))
def goodAt (homes : List Int) (ns : List Note) (i : Nat) : Bool := match ns[i]? with
  | some n => checkB homes (ns.take i) n
  | none => true
def checkR (homes : List Int) (ns : List Note) : Int × Int :=
  if badHomes homes then (0, 1) else match (List.range ns.length).find? (fun i => !goodAt homes ns i) with
    | some i => (i, 25)
    | none => (0, 0)
/- Queue. -/
def idxP {α : Type} (p : α → Bool) (l : List α) : Int := match l.findIdx? p with
  | some i => i
  | none => -1
theorem idxP_at {α : Type} (p : α → Bool) (l : List α) (i : Nat) (h : i < l.length) (hp : p l[i] = true) (hn : ∀ x ∈ l.take i, p x = false) : idxP p l = i := by
  unfold idxP
  have : l.findIdx? p = some i := by
    rw [List.findIdx?_eq_some_iff_getElem]
    refine ⟨h, hp, fun j hj => ?_⟩
    have := hn l[j] (by rw [List.mem_take_iff_getElem]; exact ⟨j, by omega, rfl⟩)
    simp [this]
  rw [this]
theorem idxP_none {α : Type} (p : α → Bool) (l : List α) (hn : ∀ x ∈ l, p x = false) : idxP p l = -1 := by
  unfold idxP
  have : l.findIdx? p = none := by
    rw [List.findIdx?_eq_none_iff]; exact hn
  rw [this]
theorem idxP_cases {α : Type} (p : α → Bool) (l : List α) : (idxP p l = -1 ∧ l.find? p = none) ∨ ∃ i, ∃ h : i < l.length, idxP p l = i ∧ l.find? p = some l[i] := by
  unfold idxP
  cases hx : l.findIdx? p with
  | none =>
    left
    refine ⟨rfl, ?_⟩
    rw [List.findIdx?_eq_none_iff] at hx
    rw [List.find?_eq_none]
    intro x hxx; simp [hx x hxx]
  | some i =>
    right
    rw [List.findIdx?_eq_some_iff_getElem] at hx
    obtain ⟨h, h1, h2⟩ := hx
    refine ⟨i, h, rfl, ?_⟩
    rw [List.find?_eq_some_iff_getElem]
    exact ⟨h1, i, h, rfl, fun j hj => by simpa using h2 j hj⟩
end Go.Gh
/- Maps of pairs of ints to pairs of ints: what is found, what is laid in; the frame of labels. -/
namespace Go.T
open Go Go.Gh

def pairA (k : Int × Int) : AV := .agg [.int .i64 k.1, .int .i64 k.2]
def mapE : List ((Int × Int) × (Int × Int)) → Nat → List (AV × AV × Nat)
  | [], _ => []
  | e :: r, i => (pairA e.1, pairA e.2, i) :: mapE r (i + 1)
theorem keyEq_pair (a b : Int) (k : Int × Int) : keyEq [.int .i64 a, .int .i64 b] (pairA k) = some (decide (k = (a, b))) := by
  obtain ⟨c, d⟩ := k
  simp only [keyEq, pairA, cellsEq_cons, cellsEq_nil, Option.map_some]
  simp only [Prod.mk.injEq, Option.some.injEq, Bool.and_true]
  by_cases h1 : a = c
  · by_cases h2 : b = d
    · simp [h1, h2]
    · have h2' : ¬ d = b := fun e => h2 e.symm
      simp [h1, h2, h2']
  · have h1' : ¬ c = a := fun e => h1 e.symm
    simp [h1, h1']
/-- What was found outside these labels is aas it was. -/
def Fr (S : List Lab) (h H : Hp) : Prop := ∀ M, M ∈ S ∨ h.con M = .none ∨ H.con M = h.con M
theorem Fr.new {S : List Lab} {h H : Hp} (k : Fr S h H) (f s : Nat) : (⟨f, s, H.cnt f s⟩ : Lab) ∈ S ∨ h.con ⟨f, s, H.cnt f s⟩ = .none := by
  rcases k ⟨f, s, H.cnt f s⟩ with h2 | h2 | h2
  · exact .inl h2
  · exact .inr h2
  · right; rw [← h2]; exact H.ok _ (by simp)
theorem Fr.keeps {S : List Lab} {g h H : Hp} (k : Fr S h H) (hk : Keeps g h) (hS : ∀ L ∈ S, g.con L = .none) : Keeps g H := by
  intro M
  rcases hk M with h1 | h1
  · exact .inl h1
  · rcases k M with h2 | h2 | h2
    · exact .inl (hS M h2)
    · left; rw [← h1]; exact h2
    · right; rw [h2, h1]
theorem CallX.at {P : Program} {f : FuncId} {args : List AV} {h : Hp} {K : AV → Hp → Prop} {u : Tok K} {r : AV} (hc : CallK P f args h (fun r' h' => r' = r ∧ h' = h)) (hk : K r h) : CallX P f args h K u :=
  CallX.of (hc.mono fun _ _ ⟨h1, h2⟩ => by rw [h1, h2]; exact hk)
end Go.T
/- Loops that count. -/
namespace Go.T
open Go
def cntM (ti n : Nat) (s : St) : Nat := match s.slots ti with | .int _ i => ((n : Int) - i).toNat | _ => 0
theorem awp_count {P : Program} {fid : Nat} {T : Nat → List Tg} {c : Code} {Q : Ex → St → Prop} {st : St} (ti tn : Nat) (n : Nat) (hb : n ≤ 9223372036854775807) (J : Nat → St → Prop)
    (h0 : st.slots ti = .int .i64 0) (h1 : st.slots tn = .int .i64 n) (hJ : J 0 st)
    (step : ∀ (i : Nat) (s : St), i < n → decide ((i : Int) < n) = true → IntKind.i64.wrap ((i : Int) + 1) = ((i + 1 : Nat) : Int) → s.slots ti = .int .i64 i → s.slots tn = .int .i64 n → J i s →
      awp P fid T c (thenQ (fun s' => s'.slots ti = .int .i64 ((i + 1 : Nat) : Int) ∧ s'.slots tn = .int .i64 n ∧ J (i + 1) s') Q) s)
    (last : ∀ s : St, decide ((n : Int) < n) = false → s.slots ti = .int .i64 n → s.slots tn = .int .i64 n → J n s → awp P fid T c (thenQ (fun _ => False) Q) s) :
    awp P fid T (.loop c) Q st := by
  have hm : ∀ (s : St) (i : Nat), s.slots ti = .int .i64 i → cntM ti n s = n - i := by
    intro s i h; unfold cntM; rw [h]; show ((n : Int) - i).toNat = n - i; omega
  simp only [awp]
  refine ⟨fun s => ∃ i : Nat, i ≤ n ∧ s.slots ti = .int .i64 i ∧ s.slots tn = .int .i64 n ∧ J i s, cntM ti n, ⟨0, Nat.zero_le _, by simpa using h0, h1, hJ⟩, ?_⟩
  rintro s ⟨i, hi, g0, g1, gJ⟩
  by_cases hlt : i < n
  · refine awp_mono (step i s hlt (by simpa using hlt) (by rw [IntWalk.i64_in _ (by omega)]; simp) g0 g1 gJ) fun x s' hs => ?_
    cases x with
    | normal =>
      obtain ⟨k0, k1, kJ⟩ := hs
      exact ⟨⟨i + 1, hlt, k0, k1, kJ⟩, by rw [hm s' _ k0, hm s _ g0]; omega⟩
    | exit id => exact hs
    | ret => exact hs
  · have : i = n := by omega
    subst this
    refine awp_mono (last s (by simp) g0 g1 gJ) fun x s' hs => ?_
    cases x with
    | normal => exact hs.elim
    | exit id => exact hs
    | ret => exact hs
end Go.T
/- Plain laws of trees. -/
namespace Go.Gh
theorem find_range_at {p : Nat → Bool} {n i : Nat} (hi : i < n) (hp : p i = true) (hn : ∀ u, u < i → p u = false) : (List.range n).find? p = some i := by
  rw [List.find?_range_eq_some]
  exact ⟨hp, by simpa using hi, fun j hj => by simp [hn j hj]⟩
theorem find_range_none {p : Nat → Bool} {n : Nat} (hn : ∀ u, u < n → p u = false) : (List.range n).find? p = none := by
  rw [List.find?_range_eq_none]
  intro i hi; simp [hn i hi]
def faultB (ps : List Int) (v : Nat) : Bool :=
  decide (ps.getD v 0 < -1) || decide (ps.getD v 0 ≥ ps.length) || ps.getD v 0 == (v : Int) || (ps.getD v 0 == -1 && (ps.take v).contains (-1))
def climb (ps : List Int) : Nat → Int → Bool
  | 0, _ => false
  | k + 1, v => if ps.getD v.toNat 0 = -1 then true else climb ps k (ps.getD v.toNat 0)
def treeR (ps : List Int) : Int × Int :=
  if ps.length = 0 then (0, 1) else if 32 < ps.length then (0, 3) else
  match (List.range ps.length).find? (faultB ps) with
  | some v => (v, 10)
  | none => match (List.range ps.length).find? (fun v : Nat => !climb ps ps.length v) with
    | some v => (v, 10)
    | none => (0, 0)
theorem in_tree {ps : List Int} {v : Nat} (hv : v < ps.length) (h : faultB ps v = false) : -1 ≤ ps[v] ∧ ps[v] < ps.length ∧ ps[v] ≠ v := by
  have e : ps.getD v 0 = ps[v] := by rw [List.getD_eq_getElem?_getD, List.getElem?_eq_getElem hv]; rfl
  simp only [faultB, e, Bool.or_eq_false_iff, decide_eq_false_iff_not, beq_eq_false_iff_ne] at h
  exact ⟨by omega, by omega, h.1.2⟩
/-- A node's neighbours out of the first i rows, in the order in which they are found. -/
def nearL (ps : List Int) (v : Nat) : Nat → List Int
  | 0 => []
  | i + 1 => if 0 ≤ ps.getD i 0 then (if i = v then nearL ps v i ++ [ps.getD i 0] else if ps.getD i 0 = v then nearL ps v i ++ [(i : Int)] else nearL ps v i) else nearL ps v i
def sortI (l : List Int) : List Int := l.mergeSort (fun x y => decide (x ≤ y))
def nears (ps : List Int) : List (List Int) := (List.range ps.length).map fun v => sortI (nearL ps v ps.length)
theorem nearL_len (ps : List Int) (v : Nat) : ∀ i, (nearL ps v i).length ≤ i := by
  intro i
  induction i with
  | zero => simp [nearL]
  | succ i ih => unfold nearL; split <;> (try split) <;> (try split) <;> (try simp) <;> omega
end Go.Gh
/- Plain laws of states: messages, sides, chains. -/
namespace Go.Gh
structure Msg where
  kind : Int
  obj : Int
  node : Int
  num : Int
  where' : Int
structure Cel where
  num : Int
  state : Int
  node : Int
  next : Int
structure Own where
  arrow : Int
  made : Int
  cells : List Cel
structure Sid where
  peer : Int
  base : Int
  out : List Msg
  seen : Int
structure Ask where
  obj : Int
  num : Int
structure Found where
  obj : Int
  num : Int
  where' : Int
structure Nst where
  me : Int
  objs : List Own
  edges : List Sid
  asked : Int
  asks : List Ask
  got : List Found
def withinB (x lo hi : Int) : Bool := decide (lo ≤ x) && decide (x ≤ hi)
def validB (m : Msg) : Bool := withinB m.kind 1 4 && withinB m.obj 0 7 && withinB m.node 0 31 && withinB m.num 1 1099511627776 && (if m.kind = 4 then withinB m.where' 0 31 else decide (m.where' = 0))
def goodE (e : Sid) : Bool := withinB e.peer 0 31 && withinB e.base 0 1099511627776 && withinB e.seen 0 1099511627776 && decide (e.out.length ≤ 1024) && decide (e.base + e.out.length ≤ 1099511627776) && e.out.all validB
theorem any_not {α : Type} (p : α → Bool) (l : List α) : (!l.any fun x => !p x) = l.all p := by
  induction l with
  | nil => rfl
  | cons x r ih => simp only [List.any_cons, List.all_cons, ← ih, Bool.not_or, Bool.not_not]
def bareB (c : Cel) : Bool := c.node == -1 && c.next == 0
def ledB (c : Cel) : Bool := withinB c.node 0 31 && withinB c.next 1 1099511627776
def busyB (c : Cel) : Bool := c.state == 1 || c.state == 2
def openN (cs : List Cel) : Nat := cs.countP busyB
theorem openN_le (cs : List Cel) : openN cs ≤ cs.length := List.countP_le_length
theorem openN_step (cs : List Cel) (i : Nat) (h : i < cs.length) : openN (cs.take (i + 1)) = if busyB cs[i] then openN (cs.take i) + 1 else openN (cs.take i) := by
  rw [List.take_succ_eq_append_getElem h]
  unfold openN
  rw [List.countP_append, List.countP_singleton]
  split <;> rfl
/-- What is asked of the cell at place i. -/
def cellOk (cs : List Cel) (me : Int) (sink : Bool) (i : Nat) (c : Cel) : Bool :=
  withinB c.num 0 1099511627776 && (i == 0 || decide ((cs[i - 1]?.map Cel.num).getD 0 < c.num)) && withinB c.state 1 3 && (i == 0 || c.state == 1) && (c.num != 0 || c.state == 3) &&
  (if sink && i + 1 == cs.length then bareB c else c.state != 3 && ledB c && (c.node != me || (i + 1 != cs.length && (cs[i + 1]?.map Cel.num).getD 0 == c.next)))
def cellAt (cs : List Cel) (me : Int) (sink : Bool) (i : Nat) : Bool := match cs[i]? with
  | some c => cellOk cs me sink i c
  | none => true
def goodC (cs : List Cel) (me : Int) (sink : Bool) : Bool := !(sink && cs.isEmpty) && (List.range cs.length).all (cellAt cs me sink)
theorem idxP_any {α : Type} (p : α → Bool) (l : List α) : decide (idxP p l ≥ 0) = l.any p := by
  rcases idxP_cases p l with ⟨h1, h2⟩ | ⟨i, hi, h1, h2⟩
  · rw [h1]
    symm
    simp only [List.find?_eq_none] at h2
    simp only [ge_iff_le, show ¬ ((0 : Int) ≤ -1) by omega, decide_false, List.any_eq_false]
    exact h2
  · rw [h1]
    have : l.any p = true := List.any_eq_true.2 ⟨l[i], List.getElem_mem hi, List.find?_some h2⟩
    simp [this]
end Go.Gh
/- Freezing: what is mutable no more is a value. -/
namespace Go.T
open Go

/-- One value may be taken for another. -/
def Le (a b : AV) : Prop := ∀ (w : World) (B : Nat → Prop) (e : Env) (h : Hp) (v : Value), R w B (e.E h) a v → R w B (e.E h) b v
theorem Le.refl (a : AV) : Le a a := fun _ _ _ _ _ h => h
theorem Le.l {ex : Bool} {sz : Nat} {xs : List AV} : Le (.l ex sz xs) (.l false sz xs) := by
  intro w B e h v hR
  cases hR with
  | l0 _ _ a c hx => exact .l0 _ _ _ _ (fun h => by simp at h)
  | l _ _ _ b off cap vs h1 h2 h3 h4 h5 h6 h7 h8 => exact .l _ _ _ _ _ _ vs h1 (fun h => by simp at h) h3 h4 h5 h6 h7 h8
  | ref _ _ h => exact h.elim
theorem Le.l0 {ex : Bool} {sz sz' : Nat} : Le (.l ex sz []) (.l false sz' []) := by
  intro w B e h v hR
  cases hR with
  | l0 _ _ a c hx => exact .l0 _ _ _ _ (fun h => by simp at h)
  | l _ _ _ b off cap vs h1 => exact absurd rfl h1
  | ref _ _ h => exact h.elim
theorem Le.tup {aas bs : List AV} (hl : aas.length = bs.length) (h : ∀ j, j < bs.length → Le (aas.getD j .undef) (bs.getD j .undef)) : Le (.tup aas) (.tup bs) := by
  intro w B e hh v hR
  obtain ⟨vs, rfl, h1, h2⟩ := R_tup hR
  exact .tup _ vs (by rw [h1, hl]) (fun j hj => h j hj _ _ _ _ _ (h2 j (by rw [hl]; exact hj)))
theorem Le.agg {aas bs : List AV} (hl : aas.length = bs.length) (h : ∀ j, j < bs.length → Le (aas.getD j .undef) (bs.getD j .undef)) : Le (.agg aas) (.agg bs) := by
  intro w B e hh v hR
  obtain ⟨vs, rfl, h1, h2⟩ := R_agg hR
  exact .agg _ vs (by rw [h1, hl]) (fun j hj => h j hj _ _ _ _ _ (h2 j (by rw [hl]; exact hj)))
/-- A value, label by label frozen, comes to r; the heap lets the labels go. -/
inductive Frz : Hp → AV → Hp → AV → Prop
  | done (h : Hp) (a r : AV) : Le a r → Frz h a h r
  | step (h : Hp) (L : Lab) (a : AV) (h' : Hp) (r : AV) : Frz (h.set L .none) (a.frz L (h.con L)) h' r → Frz h a h' r
theorem Frz.sound {w : World} {h h' : Hp} {a r : AV} (f : Frz h a h' r) : ∀ {B : Nat → Prop} {e : Env} {v : Value}, HRel w B e h → R w B (e.E h) a v →
    ∃ B', HRel w B' e h' ∧ Ext w B e h w B' e h' ∧ R w B' (e.E h') r v := by
  induction f with
  | done h a r hl => exact fun hh hR => ⟨_, hh, Ext.refl _ _ _ _, hl _ _ _ _ _ hR⟩
  | step h L a h' r _ ih =>
    intro B e v hh hR
    obtain ⟨B', h1, h2, h3⟩ := ih (HRel_frz hh) (R_frz hh hR)
    exact ⟨B', h1, Ext_frz.trans h2, h3⟩
theorem Frz.keeps {h h' : Hp} {a r : AV} (f : Frz h a h' r) : ∀ L, h'.con L = .none ∨ h'.con L = h.con L := by
  induction f with
  | done h a r hl => exact fun L => .inr rfl
  | step h M a h' r _ ih =>
    intro L
    rcases ih L with h1 | h1
    · exact .inl h1
    · rcases drop_none (h := h) (L := M) L with h2 | h2
      · left; rw [h1, h2]
      · right; rw [h1, h2]

/-- **A function's answer, frozen.** -/
theorem CallK.frz {P : Program} {f : Nat} {args : List AV} {h : Hp} {K : AV → Hp → Prop} (hc : CallK P f args h (fun r h' => ∃ h'' r', Frz h' r h'' r' ∧ K r' h'')) : CallK P f args h K := by
  intro w B e vs h1 h2 h3
  refine (hc w B e vs h1 h2 h3).mono ?_
  rintro en w' ⟨v, r, h', B', e', rfl, g2, g3, g4, h'', r', g5, g6⟩
  obtain ⟨B'', k1, k2, k3⟩ := g5.sound g2 g4
  exact ⟨v, r', h'', B'', e', rfl, k1, g3.trans k2, k3, g6⟩

theorem CallK.leArg {P : Program} {f : Nat} {args args' : List AV} {h : Hp} {K : AV → Hp → Prop} (hl : args.length = args'.length) (hle : ∀ i, i < args.length → Le (args.getD i .un) (args'.getD i .un)) (hc : CallK P f args' h K) : CallK P f args h K := by
  intro w B e vs h1 h2 h3
  exact hc w B e vs h1 (by rw [h2, hl]) (fun i hi => hle i (by rw [hl]; exact hi) _ _ _ _ _ (h3 i (by rw [hl]; exact hi)))

/-- The end of a pure function whose answer is frozen to r. -/
def endZ (P : Program) (fn : Func) (r : AV) (h : Hp) : Ex → St → Prop
  | .exit _, _ => False
  | _, st => resK P fn.results.toList st (fun vs => ∃ h'', Frz st.hp (oneOf vs) h'' r ∧ Keeps h h'')
theorem PureAt.of_awpZ {P : Program} (hm : P.follows .mixedOrders = true) (T : Nat → List Tg) {f : FuncId} {fn : Func} {c : Code} {args : List AV} {h : Hp} {r : AV} (hf : P.funcs[f]? = some fn) (hb : fn.body = some c) (hok : okCode fn.ntmps T c = true)
    (hl : args.length ≤ fn.ntmps) (hlf : r.lf = true) (hk : awp P f T c (endZ P fn r h) (enter args h)) : CallK P f args h (fun r' h' => r' = r ∧ h' = h) := by
  have hQ : ∀ ex st, endZ P fn r h ex st → endK P fn (fun r' h' => ∃ h'' r'', Frz h' r' h'' r'' ∧ r'' = r ∧ Keeps h h'') ex st := by
    have key : ∀ st, (resK P fn.results.toList st (fun vs => ∃ h'', Frz st.hp (oneOf vs) h'' r ∧ Keeps h h'')) → resK P fn.results.toList st (fun vs => ∃ h' : Hp, (∀ L, h'.con L = .none ∨ h'.con L = st.hp.con L) ∧ h'.cnt = st.hp.cnt ∧ ∃ h'' r'', Frz h' (oneOf vs) h'' r'' ∧ r'' = r ∧ Keeps h h'') := by
      intro st h1
      exact resK_mono h1 fun vs ⟨h'', g1, g2⟩ => ⟨st.hp, fun _ => .inr rfl, rfl, h'', r, g1, rfl, g2⟩
    intro ex st hx
    cases ex with
    | exit id => exact hx.elim
    | normal => exact key st hx
    | ret => exact key st hx
  refine CallK.pure ((CallK.frz (K := fun r' h' => r' = r ∧ Keeps h h') ((CallK.of_awp' hm T hf hb hok hl hQ hk).mono ?_)).mono ?_)
  · rintro r' h' ⟨h'', r'', g1, g2, g3⟩
    exact ⟨h'', r'', g1, g2, g3⟩
  · rintro r' h' ⟨rfl, h2⟩
    exact ⟨hlf, h2, rfl⟩
theorem PureF.of_awpZ {P : Program} (hm : P.follows .mixedOrders = true) (T : Nat → List Tg) {f : FuncId} {fn : Func} {c : Code} {args : List AV} {r : AV} (hf : P.funcs[f]? = some fn) (hb : fn.body = some c) (hok : okCode fn.ntmps T c = true)
    (hl : args.length ≤ fn.ntmps) (hlf : r.lf = true) (hk : ∀ h, awp P f T c (endZ P fn r h) (enter args h)) : PureF P f args r :=
  fun h => PureAt.of_awpZ hm T hf hb hok hl hlf (hk h)
section ends
variable {P : Program} {fn : Func} {r : AV} {h : Hp} {st : St}
@[go_sem ↓, go_sem] theorem endZ_ret : endZ P fn r h .ret st = resK P fn.results.toList st (fun vs => ∃ h'', Frz st.hp (oneOf vs) h'' r ∧ Keeps h h'') := by simp [endZ]
end ends
end Go.T
/- A round of a range over a function, out of the abstract run of its body. -/
namespace Go.T
open Go

def putS : List Nat → List AV → St → St
  | p :: ps, a :: aas, st => putS ps aas (st.put (some p) a)
  | _, _, st => st
/-- The assignment to the loop's left sides ends aas it begins. -/
def asgQ (N : St → Prop) : Ex → St → Prop
  | .normal, s => N s
  | _, _ => False
/-- A round's end. -/
def roundQ (L : Lab) (slots : Nat → AV) (n : Nat) (ps : List Nat) (asg body : Code) (K : AV → Hp → Prop) : Ex → St → Prop
  | .normal, s => K (.bool true) (s.hp.back L (.lp slots n ps asg body .ready))
  | .exit id, s => K (.bool false) (s.hp.back L (.lp slots n ps asg body (.done (.exit id))))
  | .ret, s => K (.bool false) (s.hp.back L (.lp slots n ps asg body (.done .ret)))

theorem putS_rel {w : World} {B : Nat → Prop} {e : Env} {n : Nat} : ∀ (ps : List Nat) (aas : List AV) (vs : List Value) (st : St) (tmps : Array Value), aas.length = ps.length → vs.length = ps.length → (∀ p ∈ ps, p < n) →
    tmps.size = n → (∀ i, R w B (e.E st.hp) (st.slots i) (tmps.getD i undef)) → (∀ i, i < aas.length → R w B (e.E st.hp) (aas.getD i .un) (vs.getD i undef)) →
    ((ps.zip vs).foldl (fun t p => t.setIfInBounds p.1 p.2) tmps).size = n ∧ (putS ps aas st).hp = st.hp ∧ ∀ i, R w B (e.E st.hp) ((putS ps aas st).slots i) (((ps.zip vs).foldl (fun t p => t.setIfInBounds p.1 p.2) tmps).getD i undef) := by
  intro ps
  induction ps with
  | nil =>
    intro aas vs st tmps h1 h2 _ h3 h4 _
    have : aas = [] := List.length_eq_zero_iff.1 h1
    subst this
    exact ⟨by simpa using h3, rfl, by simpa [putS] using h4⟩
  | cons p ps ih =>
    intro aas vs st tmps h1 h2 hp h3 h4 h5
    cases aas with
    | nil => simp at h1
    | cons a aas =>
      cases vs with
      | nil => simp at h2
      | cons v vs =>
        have hpn := hp p (by simp)
        have h0 := h5 0 (by simp)
        simp only [List.getD_cons_zero] at h0
        obtain ⟨g1, g2, g3⟩ := ih aas vs (st.put (some p) a) (tmps.setIfInBounds p v) (by simpa using h1) (by simpa using h2) (fun q hq => hp q (by simp [hq])) (by simpa using h3) (fun i => by
          rw [put_slots, put_hp]
          by_cases hi : i = p
          · subst hi
            rw [if_pos rfl]
            have : (tmps.setIfInBounds i v).getD i undef = v := by
              simp only [Array.getD_eq_getD_getElem?]
              rw [Array.getElem?_setIfInBounds_self_of_lt (by omega)]; rfl
            rw [this]; exact h0
          · rw [if_neg hi]
            have : (tmps.setIfInBounds p v).getD i undef = tmps.getD i undef := by
              simp only [Array.getD_eq_getD_getElem?]
              rw [Array.getElem?_setIfInBounds_ne (Ne.symm hi)]
            rw [this]; exact h4 i) (fun i hi => by
          rw [put_hp]
          have := h5 (i + 1) (by simpa using hi)
          simpa using this)
        rw [put_hp] at g2 g3
        exact ⟨by simpa using g1, by simpa [putS] using g2, by simpa [putS] using g3⟩

section
variable {P : Program}
theorem YieldK.of_awpC (hm : P.follows .mixedOrders = true) (fid : Nat) (T : Nat → List Tg) {L : Lab} {args : List AV} {h : Hp} {K : AV → Hp → Prop} {slots : Nat → AV} {n : Nat} {ps : List Nat} {asg bd : Code}
    (hcon : h.con L = .lp slots n ps asg bd .ready) (hn : ntm P fid = n) (hps : ∀ p ∈ ps, p < n) (hok1 : okCode n T asg = true) (hok2 : okCode n T bd = true) (hlen : args.length = ps.length)
    (hk : awp P fid T asg (asgQ (awp P fid T bd (fun x s => (∀ f t, h.cnt f t ≤ s.hp.cnt f t) → roundQ L slots n ps asg bd K x s))) (putS ps args ⟨slots, h.set L .none⟩)) : YieldK P L args h K := by
  intro w B e vs hh hLk hs hargs
  have hL : e.has h L := ⟨hLk, by rw [hcon]; trivial⟩
  have hc := hh.con L hLk
  rw [hcon] at hc
  obtain ⟨hB, r, hrow, hpar, hasg, hbody, hsz, hslots, hst, hpend⟩ := hc
  have hlt : (e.β L).block < w.heap.size := (hh.lt hL).1
  refine ⟨r.fn, _, r.assign, r.body, run_yield hrow (by rw [hs, hlen, ← hpar]; simp), fun ro m => ?_⟩
  rw [hasg, hbody]
  -- the round begins: the record is no one's
  have hx1 : Ext w B e h w B e (h.set L .none) := Ext.drop (fun M => dropc M) rfl
  have hh1 : HRel w B e (h.set L .none) := HRel.drop hh (fun M => dropc M) rfl
  have free1 : ∀ M, e.has (h.set L .none) M → (e.β M).block ≠ (e.β L).block := fun M hM hE => (has_drop hM).1 (hh.inj _ _ (has_drop hM).2 hL hE)
  have hfold : (r.params.zip vs).foldl (fun tmps x => tmps.setIfInBounds x.1 x.2) r.tmps = (ps.zip vs.toList).foldl (fun t p => t.setIfInBounds p.1 p.2) r.tmps := by
    rw [← Array.foldl_toList, Array.toList_zip, hpar]
  obtain ⟨p1, p2, p3⟩ := putS_rel (w := w) (B := B) (e := e) (n := n) ps args vs.toList ⟨slots, h.set L .none⟩ r.tmps hlen (by rw [← hlen, ← hs]; simp) hps hsz (fun i => (hslots i).ext hh hx1) (fun i hi => by
    have := (hargs i hi).ext hh hx1
    simpa using this)
  have hrel : Rel w B e n (putS ps args ⟨slots, h.set L .none⟩) { tmps := (r.params.zip vs).foldl (fun tmps x => tmps.setIfInBounds x.1 x.2) r.tmps, defers := [] } := by
    rw [hfold]
    exact ⟨by rw [p2]; exact hh1, fun i => by rw [p2]; exact p3 i, p1⟩
  have main := awp_sound (w0 := w) (B0 := B) (e0 := e) (h0 := h.set L .none) (n := n) hm fid hn T (some (e.β L).block) w.heap.size (Nat.le_refl _) (fun l0 hl0 => by
    simp only [Option.some.injEq] at hl0; subst hl0; exact ⟨r, hrow, hlt, free1⟩) asg _ _ _ w B e m hok1 hrel (by rw [p2]; exact Ext.refl _ _ _ _) (DefOK.nil _ _ _ _ _) hk
  refine roundIn_of_wpIn (F := wr ro) (n := m) (l := (e.β L).block) trivial (wpIn_mono main ?_)
  rintro ex a1 w1 ⟨x', hx', st1, B1, e1, g1, g2, g3, g4⟩
  have key : awp P fid T bd (fun x s => (∀ f t, h.cnt f t ≤ s.hp.cnt f t) → roundQ L slots n ps asg bd K x s) st1 → ∃ w₂, (Instr.beginRound (e.β L).block).run P w1 = .ok () w₂ ∧ bd.wpIn ((wr ro).inRound (e.β L).block) m P (roundPost P (e.β L).block (fun en w' => ∃ v r h' B' e', en = .returned v ∧ HRel w' B' e' h' ∧ Ext w B e h w' B' e' h' ∧ R w' B' (e'.E h') r v ∧ K r h')) a1 w₂ := by
    intro hbd
    obtain ⟨s1, s2, s3⟩ := unowned_ext g3 hlt free1
    have nb1 : ¬ B1 (e.β L).block := notB_ext g3 hlt free1 hB
    refine ⟨w1.putObj (e.β L).block (.loop { r with state := .busy }), run_beginRound (s2.trans hrow) hst, ?_⟩
    have hother1 : ∀ b, (B1 b ∨ ∃ M, e1.has st1.hp M ∧ (e1.β M).block = b) → (w1.putObj (e.β L).block (.loop { r with state := .busy })).heap[b]? = w1.heap[b]? := by
      rintro b (hb | ⟨M, hM, rfl⟩)
      · exact World.putObj_heap_other (fun hE => nb1 (hE ▸ hb))
      · exact World.putObj_heap_other (s3 M hM)
    have hh2 : HRel (w1.putObj (e.β L).block (.loop { r with state := .busy })) B1 e1 st1.hp := g2.hp.free (by simp) hother1
    have hrel2 : Rel (w1.putObj (e.β L).block (.loop { r with state := .busy })) B1 e1 n st1 a1 := ⟨hh2, fun i => (g2.slots i).mono (fun b hb => hother1 b (.inl hb)) (fun _ h => h) (fun _ _ h => h), g2.size⟩
    have hrow2 : (w1.putObj (e.β L).block (.loop { r with state := .busy })).heap[(e.β L).block]? = some (.loop { r with state := .busy }) := World.putObj_heap_same s1
    have hdef2 : DefOK w.heap.size (w1.putObj (e.β L).block (.loop { r with state := .busy })) B1 e1 st1.hp a1.defers := by
      obtain ⟨Ds, d1, d2, d3⟩ := g4
      refine ⟨Ds, d1, d2, fun D hD => ?_⟩
      obtain ⟨y1, y2, y3, y4, y5⟩ := d3 D hD
      have hne : D ≠ (e.β L).block := fun hE => by
        rw [hE, s2, hrow] at y4; simp at y4
      exact ⟨y1, y2, by simpa using y3, by rw [World.putObj_heap_other hne]; exact y4, y5⟩
    have main2 := awp_sound (w0 := w1.putObj (e.β L).block (.loop { r with state := .busy })) (B0 := B1) (e0 := e1) (h0 := st1.hp) (n := n) hm fid hn T (some (e.β L).block) w.heap.size (by simpa using g3.size) (fun l0 hl0 => by
      simp only [Option.some.injEq] at hl0; subst hl0; exact ⟨_, hrow2, by simpa using s1, s3⟩) bd _ _ _ _ B1 e1 m hok2 hrel2 (Ext.refl _ _ _ _) hdef2 hbd
    refine wpIn_mono main2 ?_
    rintro ex2 a3 w3 ⟨x2, hx2, st3, B3, e3, k1, k2, k3, k4⟩
    obtain ⟨t1, t2, t3⟩ := unowned_ext k3 (by simpa using s1) s3
    have nb3 : ¬ B3 (e.β L).block := notB_ext k3 (by simpa using s1) s3 nb1
    have hrow3 : w3.heap[(e.β L).block]? = some (.loop { r with state := .busy }) := t2.trans hrow2
    have hk3 : L.k < st3.hp.cnt L.f L.s := Nat.lt_of_lt_of_le (Nat.lt_of_lt_of_le hLk (g3.cnt _ _)) (k3.cnt _ _)
    have hk1 : L.k < st1.hp.cnt L.f L.s := Nat.lt_of_lt_of_le hLk (g3.cnt _ _)
    have hβ3 : e3.β L = e.β L := by rw [(k3.env L hk1).1]; exact (g3.env L hLk).1
    -- the record is taken up again
    have finish : ∀ (jump : Option Code) (s' : LpS), (match s' with | .ready => jump = none | .done x => jump = some (exC x)) → ∀ b, b = jump.isNone → K (.bool b) (st3.hp.back L (.lp slots n ps asg bd s')) →
        ∃ v w', (Instr.endRound (e.β L).block jump).run P w3 = .ok v w' ∧ (fun en w' => ∃ v r h' B' e', en = .returned v ∧ HRel w' B' e' h' ∧ Ext w B e h w' B' e' h' ∧ R w' B' (e'.E h') r v ∧ K r h') (Ending.returned v) w' := by
      intro jump s' hj b hb hK
      obtain ⟨o4, ho4⟩ : ∃ o : Loop, o = { r with state := if jump.isNone then .ready else .done, pending := jump } := ⟨_, rfl⟩
      have hc4 : ∀ M, (st3.hp.back L (.lp slots n ps asg bd s')).con M = if M = L then .lp slots n ps asg bd s' else st3.hp.con M := fun M => back_con hk3 M
      have hcnt4 : (st3.hp.back L (.lp slots n ps asg bd s')).cnt = st3.hp.cnt := back_cnt
      have has4 : ∀ M, M ≠ L → e3.has (st3.hp.back L (.lp slots n ps asg bd s')) M → e3.has st3.hp M := fun M hne hM => by
        refine ⟨by have := hM.1; rwa [hcnt4] at this, ?_⟩
        have := hM.2
        rwa [hc4, if_neg hne] at this
      have live4 : ∀ M, ((st3.hp.back L (.lp slots n ps asg bd s')).con M).live → M ≠ L ∧ (st3.hp.con M).live := fun M hl => by
        rw [hc4] at hl
        by_cases hE : M = L
        · rw [if_pos hE] at hl; exact hl.elim
        · rw [if_neg hE] at hl; exact ⟨hE, hl⟩
      have hE4 : ∀ a v, e3.E st3.hp a v → e3.E (st3.hp.back L (.lp slots n ps asg bd s')) a v := fun a v hE => by
        cases a with
        | pt M sz i j => exact ⟨by rw [hcnt4]; exact hE.1, hE.2.1, fun hl => hE.2.2 (live4 M hl).2⟩
        | os M => exact ⟨by rw [hcnt4]; exact hE.1, hE.2.1, fun hl => hE.2.2 (live4 M hl).2⟩
        | sl M a n c => exact ⟨by rw [hcnt4]; exact hE.1, hE.2.1, fun hl => hE.2.2 (live4 M hl).2⟩
        | mr M => exact ⟨by rw [hcnt4]; exact hE.1, hE.2.1, fun hl => hE.2.2 (live4 M hl).2⟩
        | yl M => exact ⟨by rw [hcnt4]; exact hE.1, hE.2⟩
        | _ => exact hE.elim
      have hother3 : ∀ b, (B3 b ∨ ∃ M, e3.has st3.hp M ∧ (e3.β M).block = b) → (w3.putObj (e.β L).block (.loop o4)).heap[b]? = w3.heap[b]? := by
        rintro b (hb | ⟨M, hM, rfl⟩)
        · exact World.putObj_heap_other (fun hE => nb3 (hE ▸ hb))
        · exact World.putObj_heap_other (t3 M hM)
      have xx : Ext w B e h (w3.putObj (e.β L).block (.loop o4)) B3 e3 (st3.hp.back L (.lp slots n ps asg bd s')) := by
        have z1 := g3.size
        have z2 := k3.size
        simp only [World.putObj_size] at z2
        refine ⟨by simp; omega, k3.os.trans g3.os, k3.tape.trans g3.tape, k3.output.trans g3.output, fun b hb => k3.bsub b (g3.bsub b hb), fun b hb => ?_, fun b hb ho => ?_, fun M hM => ?_, fun f s => ?_, fun M hM => ?_, fun M hM hl => ?_⟩
        · rcases k3.bnew b hb with q | ⟨M, q1, q2⟩ | q
          · rcases g3.bnew b q with q | ⟨M, q1, q2⟩ | q
            · exact .inl q
            · exact .inr (.inl ⟨M, (has_drop q1).2, q2⟩)
            · exact .inr (.inr q)
          · rcases g3.onew M q1 with ⟨M', q3, q4⟩ | q3
            · exact .inr (.inl ⟨M', (has_drop q3).2, q4.trans q2⟩)
            · exact .inr (.inr (by omega))
          · exact .inr (.inr (by simp at q; omega))
        · have hbl : b ≠ (e.β L).block := fun hE => ho L hL hE.symm
          have u1 : ∀ M, e.has (h.set L .none) M → (e.β M).block ≠ b := fun M hM => ho M (has_drop hM).2
          obtain ⟨v1, v2, v3⟩ := unowned_ext g3 hb u1
          obtain ⟨_, v5, _⟩ := unowned_ext k3 (by simpa using v1) v3
          rw [World.putObj_heap_other hbl, v5, World.putObj_heap_other hbl, v2]
        · by_cases hE : M = L
          · exact .inl ⟨L, hL, by rw [hE, hβ3]⟩
          · rcases k3.onew M (has4 M hE hM) with ⟨M', q1, q2⟩ | q1
            · rcases g3.onew M' q1 with ⟨M2, q3, q4⟩ | q3
              · exact .inl ⟨M2, (has_drop q3).2, q4.trans q2⟩
              · exact .inr (by omega)
            · exact .inr (by simp at q1; omega)
        · rw [hcnt4]; exact Nat.le_trans (g3.cnt f s) (k3.cnt f s)
        · obtain ⟨q1, q2⟩ := g3.env M hM
          obtain ⟨q3, q4⟩ := k3.env M (Nat.lt_of_lt_of_le hM (g3.cnt _ _))
          exact ⟨q3.trans q1, q4.trans q2⟩
        · have h1 := live4 M hl
          have h2 := k3.live M (Nat.lt_of_lt_of_le hM (g3.cnt _ _)) h1.2
          have h3 := g3.live M hM h2
          rcases dropc (h := h) (L := L) M with h4 | h4
          · rw [h4] at h3; exact h3.elim
          · rwa [h4] at h3
      have hh4 : HRel (w3.putObj (e.β L).block (.loop o4)) B3 e3 (st3.hp.back L (.lp slots n ps asg bd s')) := by
        refine ⟨fun M hM => ?_, fun M M' hM hM' hb => ?_, fun b hb => by simpa using k2.hp.bnd b hb⟩
        · rw [hc4]
          by_cases hE : M = L
          · subst hE
            rw [if_pos rfl]
            refine ⟨by rw [hβ3]; exact nb3, o4, by rw [hβ3]; exact World.putObj_heap_same t1, by rw [ho4]; exact hpar, by rw [ho4]; exact hasg, by rw [ho4]; exact hbody, by rw [ho4]; exact hsz, fun i => ?_, ?_⟩
            · have : o4.tmps = r.tmps := by rw [ho4]
              rw [this]; exact (hslots i).ext hh xx
            · rw [ho4]
              cases s' with
              | ready => simp only at hj; subst hj; exact ⟨rfl, rfl⟩
              | done x => simp only at hj; subst hj; exact ⟨rfl, rfl⟩
          · rw [if_neg hE]
            have hk' : M.k < st3.hp.cnt M.f M.s := by rw [hcnt4] at hM; exact hM
            exact ConRel.move (fun a v hR => hR.mono (fun b hb => hother3 b (.inl hb)) (fun _ h => h) hE4) rfl rfl (fun ho => hother3 _ (.inr ⟨M, own_has hk' ho, rfl⟩)) (fun _ h => h) (k2.hp.con M hk')
        · by_cases hE : M = L
          · by_cases hE' : M' = L
            · rw [hE, hE']
            · exfalso
              rw [hE, hβ3] at hb
              exact t3 M' (has4 M' hE' hM') hb.symm
          · by_cases hE' : M' = L
            · exfalso
              rw [hE', hβ3] at hb
              exact t3 M (has4 M hE hM) hb
            · exact k2.hp.inj M M' (has4 M hE hM) (has4 M' hE' hM') hb
      refine ⟨_, _, run_endRound jump hrow3, _, .bool b, st3.hp.back L (.lp slots n ps asg bd s'), B3, e3, rfl, ?_, ?_, by rw [hb]; exact .bool _, hK⟩
      · rw [ho4] at hh4; exact hh4
      · rw [ho4] at xx; exact xx
    cases ex2 with
    | normal =>
      simp only [toEx, Option.some.injEq] at hx2; subst hx2
      exact finish none .ready rfl true rfl (k1 fun f t => Nat.le_trans (g3.cnt f t) (k3.cnt f t))
    | exit id =>
      simp only [toEx, Option.some.injEq] at hx2; subst hx2
      exact finish (some (.exit id)) (.done (.exit id)) rfl false rfl (k1 fun f t => Nat.le_trans (g3.cnt f t) (k3.cnt f t))
    | ret =>
      simp only [toEx, Option.some.injEq] at hx2; subst hx2
      exact finish (some .ret) (.done .ret) rfl false rfl (k1 fun f t => Nat.le_trans (g3.cnt f t) (k3.cnt f t))
    | goto l => simp [toEx] at hx2
    | panic ch => simp [toEx] at hx2
    | outgrown => simp [toEx] at hx2
  cases ex with
  | normal =>
    simp only [toEx, Option.some.injEq] at hx'; subst hx'
    exact key g1
  | exit id => simp only [toEx, Option.some.injEq] at hx'; subst hx'; exact g1.elim
  | ret => simp only [toEx, Option.some.injEq] at hx'; subst hx'; exact g1.elim
  | goto l => simp [toEx] at hx'
  | panic ch => simp [toEx] at hx'
  | outgrown => simp [toEx] at hx'
end
end Go.T
/- The rules by which simp runs ranges over functions, nil tests, min and max. -/
namespace Go.T
open Go

def YieldX (P : Program) (L : Lab) (args : List AV) (h : Hp) (K : AV → Hp → Prop) (_ : Tok K) : Prop := YieldK P L args h K
theorem YieldX.of {P : Program} {L : Lab} {args : List AV} {h : Hp} {K : AV → Hp → Prop} {u : Tok K} (hc : YieldK P L args h K) : YieldX P L args h K u := hc
@[go_sem ↓, go_sem] theorem callV_yl {P : Program} {L : Lab} {args : List AV} {h : Hp} {K : AV → Hp → Prop} : callV P (.yl L) args h K = YieldX P L args h K ⟨⟩ := propext Iff.rfl

section
variable {P : Program} {fid : Nat} {T : Nat → List Tg} {Q : Ex → St → Prop} {st : St}
@[go_sem ↓, go_sem] theorem awp_range {g : Operand} {ps : List Nat} {asg body : Code} : awp P fid T (.rangeFunc g (List.toArray ps) asg body) Q st = rangeK P fid (st.ev g) ps asg body Q st := by simp [awp]
@[go_sem ↓, go_sem] theorem rangeK_fn {gf : Nat} {caps : List AV} {ps : List Nat} {asg body : Code} : rangeK P fid (.fn (.func gf) caps) ps asg body Q st = (hasBody P gf = true ∧ CallX P gf (.yl ⟨fid, lpSlot, st.hp.cnt fid lpSlot⟩ :: caps) (st.hp.alloc fid lpSlot (.lp st.slots (ntm P fid) ps asg body .ready))
      (fun _ h => endLpC (h.con ⟨fid, lpSlot, st.hp.cnt fid lpSlot⟩) (fun x => Q x ⟨st.slots, h.set ⟨fid, lpSlot, st.hp.cnt fid lpSlot⟩ .none⟩)) ⟨⟩) := propext Iff.rfl
@[congr] theorem rangeK_congr {g g' : AV} {ps : List Nat} {asg body : Code} (e : g = g') : rangeK P fid g ps asg body Q st = rangeK P fid g' ps asg body Q st := by subst e; rfl
end
section
variable {K : Ex → Prop} {sl : Nat → AV} {n : Nat} {ps : List Nat} {asg body : Code}
end
@[go_sem ↓, go_sem] theorem asgQ_n {N : St → Prop} {s : St} : asgQ N .normal s = N s := propext Iff.rfl
section
variable {L : Lab} {slots : Nat → AV} {n : Nat} {ps : List Nat} {asg body : Code} {K : AV → Hp → Prop} {s : St}
end
@[go_sem] theorem putS_cons {p ps a aas st} : putS (p :: ps) (a :: aas) st = putS ps aas (st.put (some p) a) := by simp [putS]
@[go_sem] theorem putS_nil {aas st} : putS [] aas st = st := by simp [putS]
@[go_sem] theorem ofVal_nilf : AV.ofVal .nilFunc = .nilf := by simp [AV.ofVal]

/- Tests for nil. -/
def nilK (k : TK) (x : AV) (K : Bool → Prop) : Prop := match k, x with
  | .pointer, .ip _ => K false
  | .pointer, .pt _ _ _ _ => K false
  | .pointer, .nilp => K true
  | .func, .fn _ _ => K false
  | .func, .nilf => K true
  | _, _ => False
def nilL (k : TK) (yn : Bool) (xs : List AV) (K : Bool → Prop) : Prop := match k with
  | .slice _ => yn = true ∧ (xs = [] → K true) ∧ K false
  | _ => False
section
variable {P : Program} {t : TypeId} {y : Operand} {K : AV → Prop}
@[go_sem ↓, go_sem] theorem nilK_ip {cs} {K : Bool → Prop} : nilK .pointer (.ip cs) K = K false := propext Iff.rfl
@[go_sem ↓, go_sem] theorem nilL_s {el yn xs} {K : Bool → Prop} : nilL (.slice el) yn xs K = (yn = true ∧ (xs = [] → K true) ∧ K false) := propext Iff.rfl
@[congr] theorem nilK_congr {k k' : TK} {x : AV} {K : Bool → Prop} (e : k = k') : nilK k x K = nilK k' x K := by subst e; rfl
@[congr] theorem nilL_congr {k k' : TK} {yn yn' : Bool} {xs : List AV} {K : Bool → Prop} (e : k = k') (e1 : yn = yn') : nilL k yn xs K = nilL k' yn' xs K := by subst e; subst e1; rfl
@[go_sem] theorem nilSlice_s {a b} : nilSlice (.const (.slice .none a b)) = true := by simp [nilSlice]
@[go_sem ↓, go_sem] theorem bin_ip_eq {cs} : binK (EqI.mk' P t y) .eql (.ip cs) .nilp K = nilK (tk P t) (.ip cs) (fun b => K (.bool b)) := by
  simp only [binK, EqI.mk']; unfold eqK nilK; cases tk P t <;> rfl
@[go_sem ↓, go_sem] theorem bin_ip_ne {cs} : binK (EqI.mk' P t y) .neq (.ip cs) .nilp K = nilK (tk P t) (.ip cs) (fun b => K (.bool (!b))) := by
  simp only [binK, EqI.mk']; unfold eqK nilK; cases tk P t <;> rfl
@[go_sem ↓, go_sem] theorem bin_l_eq {a b xs c d ys} : binK (EqI.mk' P t y) .eql (.l a b xs) (.l c d ys) K = nilL (tk P t) (nilSlice y) xs (fun b => K (.bool b)) := by
  simp only [binK, EqI.mk']; unfold eqK nilL; cases tk P t <;> rfl
end
section
variable {P : Program} {fid : Nat} {d : Option Nat} {ty : TypeId} {ps : String} {af : Array Edge} {g : Option (Nat × Bool)} {st : St} {K : St → Prop}
end
/- The record under a name. -/
section
variable {L : Lab} {c : Con} {K : AV → Hp → Prop} {s : St}
end
theorem lt_of_con {h : Hp} {L : Lab} {c : Con} (hc : h.con L = c) (hn : c ≠ .none) : L.k < h.cnt L.f L.s := by
  rcases Nat.lt_or_ge L.k (h.cnt L.f L.s) with h1 | h1
  · exact h1
  · exact absurd (hc.symm.trans (h.ok L h1)) hn
theorem ne_lpSlot {n : Nat} (h : n < 1000000) : (n = lpSlot) = False := by
  unfold lpSlot; simp; omega
end Go.T
/- Freezing lists of own slices. -/
namespace Go.T
open Go
theorem Le.ip {cs ds : List AV} (hl : ds.length = cs.length) (hc : ∀ j, j < cs.length → Le (cs.getD j .undef) (ds.getD j .undef)) : Le (.ip cs) (.ip ds) := by
  intro w B e h v hR
  cases hR with
  | ip _ b off vs h1 h2 h3 => exact .ip ds b off vs h1 (fun j hj => h2 j (hl ▸ hj)) (fun j hj => hc j (hl ▸ hj) _ _ _ _ _ (h3 j (hl ▸ hj)))
  | ref _ _ hr => exact hr.elim
theorem Le.lst {ex : Bool} {sz : Nat} {xs ys : List AV} (hl : ys.length = xs.length) (hc : ∀ i (hi : i < xs.length), (ys[i]).cells.length = (xs[i]).cells.length ∧ ∀ j, Le ((xs[i]).cells.getD j .undef) ((ys[i]).cells.getD j .undef)) : Le (.l ex sz xs) (.l ex sz ys) := by
  intro w B e h v hR
  cases hR with
  | l0 _ _ a c hx =>
    have : ys = [] := List.length_eq_zero_iff.1 (by simpa using hl)
    subst this; exact .l0 _ _ _ _ hx
  | l _ _ _ b off cap vs h1 h2 h3 h4 h5 h6 h7 h8 =>
    rw [← hl]
    exact .l ex sz ys b off cap vs (fun h0 => h1 (List.length_eq_zero_iff.1 (by rw [← hl, h0]; rfl))) (fun hx => by rw [hl]; exact h2 hx) (by rw [hl]; exact h3) h4 (fun i hi => by rw [(hc i (hl ▸ hi)).1]; exact h5 i (hl ▸ hi)) (fun i j hi hj => h6 i j (hl ▸ hi) hj)
      (fun i j hi hj => (hc i (hl ▸ hi)).2 j _ _ _ _ _ (h7 i j (hl ▸ hi) hj)) (fun i j hi hj => h8 i j (hl ▸ hi) hj)
  | ref _ _ hr => exact hr.elim
theorem frzs_id {ds : List AV} (hd : ∀ d ∈ ds, ∀ L c, d.frz L c = d) (L : Lab) (c : Con) : AV.frzs L c ds = ds := by
  rw [frzs_map]; conv => rhs; rw [← List.map_id ds]
  exact List.map_congr_left fun d hdm => hd d hdm L c
theorem Frz.list {mk : List AV → AV} (hmk : ∀ L c xs, (mk xs).frz L c = mk (AV.frzs L c xs)) (h0 : Hp) : ∀ (n : Nat) (rem : List (AV × AV)) (ds : List AV) (h : Hp) (fin : Hp → AV → Prop), rem.length = n →
    (∀ d ∈ ds, ∀ L c, d.frz L c = d) → Keeps h0 h →
    (∀ p ∈ rem, (∀ L c, p.2.frz L c = p.2) ∧ (p.1 = p.2 ∨ ∃ L sz xs, p.1 = .os L ∧ h0.con L = .none ∧ h.con L = .arr sz xs ∧ p.2 = .l false sz xs)) →
    (∀ h', Keeps h0 h' → ∃ r, Le (mk (ds ++ rem.map Prod.snd)) r ∧ fin h' r) →
    ∃ h' r, Frz h (mk (ds ++ rem.map Prod.fst)) h' r ∧ Keeps h0 h' ∧ fin h' r := by
  intro n
  induction n with
  | zero =>
    intro rem ds h fin hn hd hk hr hf
    have : rem = [] := List.length_eq_zero_iff.1 hn
    subst this
    obtain ⟨r, h1, h2⟩ := hf h hk
    exact ⟨h, r, .done _ _ _ h1, hk, h2⟩
  | succ n ih =>
    intro rem ds h fin hn hd hk hr hf
    cases rem with
    | nil => simp at hn
    | cons p rest =>
      have hn' : rest.length = n := by simpa using hn
      obtain ⟨hp2, hp1⟩ := hr p (by simp)
      rcases hp1 with hE | ⟨L, sz, xs, hE, hL0, hL, hv⟩
      · have := ih rest (ds ++ [p.2]) h fin hn' (fun d hdm => by
          rcases List.mem_append.1 hdm with hdm | hdm
          · exact hd d hdm
          · simp at hdm; subst hdm; exact hp2) hk (fun q hq => hr q (by simp [hq])) (by simpa using hf)
        simpa [hE] using this
      · have hk' : Keeps h0 (h.set L .none) := hk.set hL0 .none
        have := ih (rest.map fun q => (q.1.frz L (h.con L), q.2)) (ds ++ [p.2]) (h.set L .none) fin (by simpa using hn') (fun d hdm => by
          rcases List.mem_append.1 hdm with hdm | hdm
          · exact hd d hdm
          · simp at hdm; subst hdm; exact hp2) hk' (fun q hq => by
          obtain ⟨q0, hq0, rfl⟩ := List.mem_map.1 hq
          obtain ⟨g1, g2⟩ := hr q0 (by simp [hq0])
          refine ⟨g1, ?_⟩
          rcases g2 with g2 | ⟨M, sz', xs', k1, k2, k3, k4⟩
          · left; simp only; rw [g2, g1]
          · by_cases hM : M = L
            · subst hM; left; simp only [k1, k4, k3, AV.frz, if_true]
            · right
              refine ⟨M, sz', xs', ?_, k2, ?_, k4⟩
              · simp only [k1, AV.frz, hM, if_false]
              · rw [set_con_ne hM]; exact k3) (by simpa [List.map_map, Function.comp_def] using hf)
        obtain ⟨h', r, f1, f2, f3⟩ := this
        refine ⟨h', r, .step _ L _ _ _ ?_, f2, f3⟩
        have e1 : (mk (ds ++ (p :: rest).map Prod.fst)).frz L (h.con L) = mk (ds ++ [p.2] ++ (rest.map fun q => (q.1.frz L (h.con L), q.2)).map Prod.fst) := by
          rw [hmk, frzs_map, List.map_append, ← frzs_map, frzs_id hd]
          simp only [List.map_cons, hE, AV.frz, if_true, hL, List.map_map, Function.comp_def, hv, List.append_assoc, List.singleton_append]
        rw [e1]; exact f1
end Go.T
/- slices.Sort at ints, by the library's contract. -/
namespace Go.T
open Go Go.Proofs Go.Shelf Go.Sort
theorem Ext.grow {w : World} {B : Nat → Prop} {e : Env} {h : Hp} (os : Array Obj) : Ext w B e h (Go.Sort.grow w os) B e h where
  size := by simp [Go.Sort.grow]
  os := rfl
  tape := rfl
  output := rfl
  bsub _ h := h
  bnew _ h := .inl h
  keep b hb _ := heap_grow_old _ _ hb
  onew L hL := .inl ⟨L, hL, rfl⟩
  cnt _ _ := Nat.le_refl _
  env _ _ := ⟨rfl, rfl⟩
  live _ _ h := h
theorem HRel.grow {w : World} {B : Nat → Prop} {e : Env} {h : Hp} (hh : HRel w B e h) (os : Array Obj) : HRel (Go.Sort.grow w os) B e h := by
  refine hh.free (by simp [Go.Sort.grow]) fun b hb => heap_grow_old _ _ ?_
  rcases hb with hb | ⟨L, hL, rfl⟩
  · exact hh.bnd b hb
  · exact (hh.lt hL).1
theorem putCells_getD (zs : List Int) (off k : Nat) (c : Array Value) (hk : k < c.size) :
    (putCells (Value.int .i64) off zs.toArray c).getD k undef = if off ≤ k ∧ k < off + zs.length then Value.int .i64 (zs.getD (k - off) 0) else c.getD k undef := by
  simp only [putCells, Array.getD_eq_getD_getElem?]
  rw [Array.getElem?_mapIdx, Array.getElem?_eq_getElem hk]
  simp only [Option.map_some, Option.getD_some, List.size_toArray]
  by_cases hc : off ≤ k ∧ k < off + zs.length
  · rw [if_pos hc, if_pos hc]
    have : k - off < zs.length := by omega
    simp [this]
  · rw [if_neg hc, if_neg hc]
theorem CallK.sortInts {P : Program} {ρ : Ren} (Ly : Lays.n189 P ρ) {f : FuncId} (hf : ρ.f 189 = f) (L : Lab) (xs : List Int) (hne : xs ≠ []) (hlen : xs.length < 2 ^ 60) (h : Hp) (hL : h.con L = .arr 1 (xs.map (AV.int .i64))) (K : AV → Hp → Prop)
    (hK : K (.tup []) (h.set L (.arr 1 ((xs.mergeSort (fun x y => decide (x ≤ y))).map (AV.int .i64))))) : CallK P f [.os L] h K := by
  subst hf
  intro w B e vs hh hs hR
  have r0 := hR 0 (by simp)
  simp only [List.getD_cons_zero] at r0
  cases r0 with
  | ref _ _ hr =>
    obtain ⟨hk, _, hl⟩ := hr
    have hlive : (h.con L).live := by rw [hL]; trivial
    have hv := hl hlive
    have hc := hh.con L hk
    rw [hL] at hc
    obtain ⟨a, cap, hη, hle, hcells, hcase⟩ := hc
    have hpos : 0 < xs.length := List.length_pos_iff.2 hne
    rw [List.length_map] at hle hη
    rcases hcase with h0 | ⟨ha, hsp, hnB, vs', T, hb, hsz, hrow⟩
    · omega
    have hβ : e.β L = ⟨(e.β L).block, (e.β L).off, .none⟩ := by
      cases hx : e.β L with
      | mk b o s => rw [hx] at hsp; simp only at hsp; subst hsp; rfl
    generalize hbk : (e.β L).block = blk at *
    generalize hof : (e.β L).off = off at *
    have hcap : off + xs.length ≤ vs'.size := by omega
    have hcell : ∀ j (hj : j < xs.length), vs'.getD (off + j) undef = .int .i64 xs[j] := by
      intro j hj
      have := (hrow j 0 (by simpa using hj) (by omega)).1
      simp only [List.getElem_map, AV.cells, List.getD_cons_zero, Nat.mul_one, Nat.add_zero] at this
      exact R_int this
    have hblk : blk < w.heap.size := (Array.getElem?_eq_some_iff.1 hb).1
    have hH : Holds (Value.int .i64) w blk off xs.toArray := by
      intro j hj
      have hj' : j < xs.length := by simpa using hj
      refine ⟨?_, by simp [World.frozen?, hb]⟩
      have := hcell j hj'
      rw [Array.getD_eq_getD_getElem?, Array.getElem?_eq_getElem (by omega)] at this
      simp only [World.cell?, hb, Option.isSome_none, Bool.false_eq_true, if_false]
      rw [Array.getElem?_eq_getElem (by omega)]
      simp at this
      simp [this, hj']
    have hvs : vs = #[.slice (some ⟨blk, off, none⟩) xs.length cap] := by
      apply Array.ext
      · simpa using hs
      · intro i hi1 hi2
        have hi : i = 0 := by simp at hi2; omega
        subst hi
        rw [hη, ha, hβ] at hv
        rw [Array.getD_eq_getD_getElem?, Array.getElem?_eq_getElem hi1] at hv
        simpa using hv
    subst hvs
    refine (Any.slices_Sort_int Ly blk off cap xs w hH hblk (by omega)).mono ?_
    rintro en w' ⟨rfl, n, os, rfl⟩
    generalize hys : xs.mergeSort (fun x y => decide (x ≤ y)) = ys at hK ⊢
    have hyl : ys.length = xs.length := by rw [← hys, List.length_mergeSort]
    have hhas : e.has h L := ⟨hk, by rw [hL]; exact ⟨_, _, _, hη, by omega⟩⟩
    have hheap : ∀ b, b ≠ blk → (putRow (Value.int .i64) (Sort.ahead w n) blk off ys.toArray).heap[b]? = w.heap[b]? := by
      intro b hb'
      simp [putRow, mapBlock, Sort.ahead, Array.getElem?_modify, Ne.symm hb']
    have hhit : (putRow (Value.int .i64) (Sort.ahead w n) blk off ys.toArray).heap[blk]? = some (.cells (putCells (Value.int .i64) off ys.toArray vs') T (0, 0)) := by
      simp [putRow, mapBlock, Sort.ahead, Array.getElem?_modify, hb, onCells]
    have hsize : (putRow (Value.int .i64) (Sort.ahead w n) blk off ys.toArray).heap.size = w.heap.size := by simp [putRow, mapBlock, Sort.ahead]
    have x1 := Ext.write (B := B) (c := .arr 1 (ys.map (AV.int .i64))) hhas hlive hsize rfl rfl rfl (by rw [hbk]; exact hheap)
    have hhas' : e.has (h.set L (.arr 1 (ys.map (AV.int .i64)))) L := ⟨hk, by rw [set_con_eq hlive]; exact ⟨_, _, _, hη, by omega⟩⟩
    have h1 := hh.write hhas hlive hsize rfl rfl rfl (by rw [hbk]; exact hheap) hhas' (by
      refine ⟨a, cap, by rw [hη, List.length_map, hyl], by rw [List.length_map]; omega, fun i hi => by simp [AV.cells], .inr ⟨ha, hsp, hbk ▸ hnB, putCells (Value.int .i64) off ys.toArray vs', T, by rw [hbk]; exact hhit, by rw [hof]; simpa [putCells] using hsz, ?_⟩⟩
      intro i j hi hj
      have hi' : i < ys.length := by simpa using hi
      have hj' : j = 0 := by omega
      subst hj'
      rw [hof, putCells_getD _ _ _ _ (by omega), if_pos (by omega)]
      simp [AV.cells, hi', List.getD_eq_getElem?_getD, show off + i - off = i by omega]
      exact ⟨.int _ _, by simp [Value.oneCell']⟩)
    have x2 := x1.trans (Ext.grow (B := B) (e := e) (h := h.set L (.arr 1 (ys.map (AV.int .i64)))) os)
    exact ⟨.tuple #[], .tup [], _, B, e, rfl, h1.grow os, x2, .tup _ _ rfl (fun j hj => absurd hj (by simp)), hK⟩
  | _ => skip
end Go.T
/- What a law is handed: plain values out of the memory, type by type. -/
namespace Go.T
open Go Go.RowKit

def NoE : AV → Value → Prop := fun _ _ => False
def InB (w : World) (b : Nat) : Prop := b < w.heap.size
/-- A value of type t in memory is read aas one of X. -/
def Opn (P : Program) (t : TypeId) (X : Type) (e : X → List AV) (V : X → Prop) : Prop :=
  ∀ (H : Type) (enc : TypeId × Value → H) (w : World) (spare : Nat → Bool) (held : Bool) (fuel : Nat) (cs : List Value) (x : DataW H × List MemPlace), DataW.trod enc P w 0 spare held fuel t cs = some x → (∀ n ∈ x.1.weights P t, n ≤ reachBytes) →
    ∃ y : X, V y ∧ (e y).length = cs.length ∧ ∀ j, j < cs.length → R w (InB w) NoE ((e y).getD j .undef) (cs.getD j undef) ∧ (cs.getD j undef).oneCell' = true
def OpnFs (P : Program) (k n : Nat) (fs : List Field) (X : Type) (e : X → List AV) (V : X → Prop) : Prop :=
  ∀ (H : Type) (enc : TypeId × Value → H) (w : World) (spare : Nat → Bool) (held : Bool) (fuel : Nat) (cs : List Value), cs.length = n →
    (∀ f ∈ fs, ∃ x : DataW H × List MemPlace, DataW.trod enc P w 0 spare held fuel f.type ((cs.drop f.offset).take (P.cellsOf f.type)) = some x ∧ ∀ n ∈ x.1.weights P f.type, n ≤ reachBytes) →
    ∃ y : X, V y ∧ k + (e y).length = n ∧ ∀ j, j < (e y).length → R w (InB w) NoE ((e y).getD j .undef) (cs.getD (k + j) undef) ∧ (cs.getD (k + j) undef).oneCell' = true

theorem weightsAll_mem {H : Type} {P : Program} {e : TypeId} {d : DataW H} {n : Nat} (hn : n ∈ d.weights P e) : ∀ {ds : List (DataW H)}, d ∈ ds → n ∈ DataW.weightsAll P e ds := by
  intro ds
  induction ds with
  | nil => intro h; cases h
  | cons x r ih =>
    intro h
    simp only [DataW.weightsAll, List.mem_append]
    rcases List.mem_cons.1 h with rfl | h
    · exact .inl hn
    · exact .inr (ih h)
section
variable {P : Program} {t : TypeId}
theorem Opn.int {k : IntKind} (ht : P.underlying t = some (.int k)) : Opn P t Int (fun n => [.int k n]) (fun n => (Lit.int k n).wf = true) := by
  intro H enc w spare held fuel cs x h _
  obtain ⟨n, rfl, _, hw⟩ := DataW.trod_int ht h
  refine ⟨n, hw, rfl, fun j hj => ?_⟩
  have : j = 0 := by simp at hj; omega
  subst this
  exact ⟨.int k n, rfl⟩
theorem Opn.bool (ht : P.underlying t = some .bool) : Opn P t Bool (fun b => [.bool b]) (fun _ => True) := by
  intro H enc w spare held fuel cs x h _
  obtain ⟨b, rfl, _⟩ := DataW.trod_bool ht h
  refine ⟨b, trivial, rfl, fun j hj => ?_⟩
  have : j = 0 := by simp at hj; omega
  subst this
  exact ⟨.bool b, rfl⟩
theorem Opn.iso {X Y : Type} {e : X → List AV} {V : X → Prop} {e' : Y → List AV} {V' : Y → Prop} (o : Opn P t X e V) (g : X → Y) (he : ∀ x, e' (g x) = e x) (hV : ∀ x, V x → V' (g x)) : Opn P t Y e' V' := by
  intro H enc w spare held fuel cs x h hw
  obtain ⟨y, h1, h2, h3⟩ := o H enc w spare held fuel cs x h hw
  exact ⟨g y, hV y h1, by rw [he]; exact h2, fun j hj => by rw [he]; exact h3 j hj⟩

/-- Cells aas one value. -/
def pack (g : Bool) (aas : List AV) : AV := if g then .agg aas else aas.getD 0 .undef

theorem cells_row {w : World} {a : Addr} {n : Nat} {cs : List Value} (h : w.cells? 0 a n = some cs) : cs.length = n ∧ ∀ i, i < n → w.cell? (a.add i) = some (cs.getD i undef) := by
  unfold World.cells? at h
  rw [if_pos (Nat.zero_le _)] at h
  have hl := mapM_some_length h
  simp at hl
  refine ⟨hl, fun i hi => ?_⟩
  have h2 := mapM_some_get h i i (by simp [hi])
  rw [h2]
  have : i < cs.length := by omega
  simp [this]

theorem list_choose {X : Type} {Q : Nat → X → Prop} : ∀ n, (∀ i, i < n → ∃ y, Q i y) → ∃ ys : List X, ys.length = n ∧ ∀ i, (hi : i < ys.length) → Q i ys[i] := by
  intro n
  induction n with
  | zero => intro _; exact ⟨[], rfl, fun i hi => by simp at hi⟩
  | succ n ih =>
    intro h
    obtain ⟨ys, h1, h2⟩ := ih (fun i hi => h i (by omega))
    obtain ⟨y, hy⟩ := h n (by omega)
    refine ⟨ys ++ [y], by simp [h1], fun i hi => ?_⟩
    rw [List.getElem_append]
    split
    · rename_i hlt; exact h2 i hlt
    · rename_i hge
      have : i = n := by simp at hi; omega
      subst this
      simpa using hy

theorem Opn.sliceW {el : TypeId} {sz : Nat} {X : Type} {e : X → List AV} {V : X → Prop} (ht : P.underlying t = some (.slice el)) (hc : P.cellsOf el = sz) (hs : 0 < sz) (g : Bool) (o : Opn P el X e V) (hp : ∀ x, V x → (pack g (e x)).cells = e x) :
    Opn P t (List X) (fun ys => [.l false sz (ys.map (fun x => pack g (e x)))]) (fun ys => (∀ x ∈ ys, V x) ∧ ys.length ≤ maxLen ∧ ys.length * P.bytesOf el ≤ reachBytes) := by
  intro H enc w spare held fuel cs x h hw
  rcases DataW.trod_slice ht h with ⟨rfl, _⟩ | ⟨a, len, cap, elems, rest, n, _, rfl, hx, _, hl, hm, hlen, hel, _, _⟩
  · refine ⟨[], ⟨fun x hx => by simp at hx, by simp, by simp⟩, rfl, fun j hj => ?_⟩
    have : j = 0 := by simp at hj; omega
    subst this
    exact ⟨.l0 _ _ _ _ (fun h => by simp at h), rfl⟩
  · rw [hc] at hel
    have hw1 : (elems.length + rest.length) * P.bytesOf el ≤ reachBytes := by
      refine hw _ ?_
      rw [hx]
      simp [DataW.weights, ht]
    have hw2 : ∀ i (hi : i < elems.length), ∀ n ∈ (elems[i]).1.weights P el, n ≤ reachBytes := by
      intro i hi n hn
      refine hw _ ?_
      rw [hx]
      simp only [DataW.weights, ht, List.mem_cons, List.mem_append]
      exact .inr (.inl (weightsAll_mem hn (List.mem_map.2 ⟨_, List.getElem_mem hi, rfl⟩)))
    have each : ∀ i, i < len → ∃ y : X, V y ∧ (e y).length = sz ∧ ∃ cs', w.cells? 0 (a.add (i * sz)) sz = some cs' ∧ cs'.length = sz ∧ ∀ j, j < sz → R w (InB w) NoE ((e y).getD j .undef) (cs'.getD j undef) ∧ (cs'.getD j undef).oneCell' = true := by
      intro i hi
      have h1 := hel i hi
      have h2 : i < elems.length := by omega
      rw [List.getElem?_eq_getElem h2] at h1
      rw [Option.bind_eq_some_iff] at h1
      obtain ⟨cs', hcs, htr⟩ := h1
      obtain ⟨y, g1, g2, g3⟩ := o H enc w spare held n cs' _ htr (hw2 i h2)
      have hl' := (cells_row hcs).1
      exact ⟨y, g1, by omega, cs', hcs, hl', fun j hj => g3 j (by omega)⟩
    obtain ⟨ys, hys, hq⟩ := list_choose len each
    refine ⟨ys, ⟨fun x hx => ?_, by omega, Nat.le_trans (Nat.mul_le_mul_right _ (by omega)) hw1⟩, rfl, fun j hj => ?_⟩
    · obtain ⟨i, hi, rfl⟩ := List.getElem_of_mem hx
      exact (hq i hi).1
    have : j = 0 := by simp at hj; omega
    subst this
    refine ⟨?_, rfl⟩
    show R w (InB w) NoE (.l false sz (ys.map (fun x => pack g (e x)))) (.slice (some a) len cap)
    by_cases h0 : len = 0
    · subst h0
      have : ys = [] := List.length_eq_zero_iff.1 hys
      subst this
      exact .l0 _ _ _ _ (fun h => by simp at h)
    have hy0 : ys ≠ [] := fun hE => by rw [hE] at hys; simp at hys; omega
    have cellAt : ∀ i j, (hi : i < ys.length) → j < sz → w.cell? ((a.add (i * sz)).add j) = some ((Classical.choose (hq i hi).2.2).getD j undef) := fun i j hi hj =>
      (cells_row (Classical.choose_spec (hq i hi).2.2).1).2 j hj
    have hlt : 0 < ys.length := by omega
    have hspot : a.spot = .none := by
      have := cellAt 0 0 hlt hs
      unfold World.cell? at this
      split at this
      · split at this
        · simp at this
        · rename_i hsp
          cases hc : a.spot with
          | none => rfl
          | some z => exact absurd (by simp [Addr.add, hc]) hsp
      · simp at this
    have hblk : a.block < w.heap.size := by
      have := cellAt 0 0 hlt hs
      unfold World.cell? at this
      split at this
      · rename_i hh
        have h9 := (Array.getElem?_eq_some_iff.1 hh).1
        cases hsp : a.spot <;> simpa [Addr.add, hsp] using h9
      · simp at this
    obtain ⟨ab, ao, asp⟩ := a
    simp only at hspot hblk
    subst hspot
    have hadd : ∀ i j, ((Addr.mk ab ao .none).add (i * sz)).add j = ⟨ab, ao + (i * sz + j), .none⟩ := fun i j => by
      by_cases h1 : i * sz = 0 <;> by_cases h2 : j = 0 <;> simp [Addr.add, h1, h2, Nat.add_assoc]
    have := R.l (w := w) (B := InB w) (E := NoE) false sz (ys.map (fun x => pack g (e x))) ab ao cap (fun i j => if hi : i < ys.length then (Classical.choose (hq i hi).2.2).getD j undef else undef) (by simpa using hy0) (fun h => by simp at h) (by simp; omega) hblk
      (fun i hi => by
        have hi' : i < ys.length := by simpa using hi
        simp only [List.getElem_map]
        rw [hp _ (hq i hi').1]; exact (hq i hi').2.1)
      (fun i j hi hj => by
        have hi' : i < ys.length := by simpa using hi
        simp only [hi', dif_pos]
        rw [← hadd]; exact cellAt i j hi' hj)
      (fun i j hi hj => by
        have hi' : i < ys.length := by simpa using hi
        simp only [hi', dif_pos, List.getElem_map]
        rw [hp _ (hq i hi').1]
        exact ((Classical.choose_spec (hq i hi').2.2).2.2 j hj).1)
      (fun i j hi hj => by
        have hi' : i < ys.length := by simpa using hi
        simp only [hi', dif_pos]
        exact ((Classical.choose_spec (hq i hi').2.2).2.2 j hj).2)
    rw [List.length_map, hys] at this
    exact this

theorem Opn.slice {el : TypeId} {sz : Nat} {X : Type} {e : X → List AV} {V : X → Prop} (ht : P.underlying t = some (.slice el)) (hc : P.cellsOf el = sz) (hs : 0 < sz) (g : Bool) (o : Opn P el X e V) (hp : ∀ x, V x → (pack g (e x)).cells = e x) :
    Opn P t (List X) (fun ys => [.l false sz (ys.map (fun x => pack g (e x)))]) (fun ys => (∀ x ∈ ys, V x) ∧ ys.length ≤ maxLen) :=
  (Opn.sliceW ht hc hs g o hp).iso id (fun _ => rfl) (fun _ h => ⟨h.1, h.2.1⟩)

theorem Opn.struct {fs : Array Field} {n : Nat} {X : Type} {e : X → List AV} {V : X → Prop} (ht : P.underlying t = some (.struct fs)) (hc : P.cellsOf t = n) (o : OpnFs P 0 n fs.toList X e V) : Opn P t X e V := by
  intro H enc w spare held fuel cs x h hw
  obtain ⟨xs, m, rfl, hx0, hl, hx, hf⟩ := DataW.trod_struct ht h
  obtain ⟨y, h1, h2, h3⟩ := o H enc w spare held m cs (by omega) (fun f hfm => by
    obtain ⟨i, hi, rfl⟩ := List.getElem_of_mem hfm
    have hi' : i < fs.size := by simpa using hi
    have h1 := hf i fs[i] (by simp [hi'])
    have h2 : i < xs.length := by omega
    rw [List.getElem?_eq_getElem h2] at h1
    refine ⟨_, by simpa using h1, fun n hn => hw n ?_⟩
    rw [hx0]
    simp only [DataW.weights, ht]
    exact DataW.weights_mem_each (j := i) (t := fs.toList[i].type) (d := (xs[i]).1) (by simp [hi']) (by simp [h2]) n hn)
  exact ⟨y, h1, by omega, fun j hj => by have := h3 j (by omega); simpa using this⟩
theorem Opn.array2 {el : TypeId} {X : Type} {e : X → List AV} {V : X → Prop} (ht : P.underlying t = some (.array 2 el)) (hc : P.cellsOf t = 2) (hce : P.cellsOf el = 1) (o : Opn P el X e V) : Opn P t (X × X) (fun y => e y.1 ++ e y.2) (fun y => V y.1 ∧ V y.2) := by
  intro H enc w spare held fuel cs x h hw
  obtain ⟨xs, m, rfl, hx0, hl, hx, hf⟩ := DataW.trod_array ht h
  rw [hc] at hl
  have get : ∀ i, i < 2 → ∃ y : X, V y ∧ (e y).length = 1 ∧ R w (InB w) NoE ((e y).getD 0 .undef) (cs.getD i undef) ∧ (cs.getD i undef).oneCell' = true := by
    intro i hi
    have h1 := hf i hi
    have h2 : i < xs.length := by omega
    rw [List.getElem?_eq_getElem h2, hce] at h1
    obtain ⟨y, g1, g2, g3⟩ := o H enc w spare held m _ _ h1 (fun n hn => hw n (by
      rw [hx0]
      simp only [DataW.weights, ht]
      exact weightsAll_mem hn (List.mem_map.2 ⟨_, List.getElem_mem h2, rfl⟩)))
    have hlen : ((cs.drop (i * 1)).take 1).length = 1 := by simp; omega
    have hg : ((cs.drop (i * 1)).take 1).getD 0 undef = cs.getD i undef := by simp [List.getD_eq_getElem?_getD]
    have := g3 0 (by omega)
    rw [hg] at this
    exact ⟨y, g1, by omega, this⟩
  obtain ⟨y0, a1, a2, a3⟩ := get 0 (by omega)
  obtain ⟨y1, b1, b2, b3⟩ := get 1 (by omega)
  refine ⟨(y0, y1), ⟨a1, b1⟩, by simp; omega, fun j hj => ?_⟩
  have hj2 : j = 0 ∨ j = 1 := by omega
  rcases hj2 with rfl | rfl
  · have e1 : (e y0 ++ e y1).getD 0 .undef = (e y0).getD 0 .undef := by
      rw [List.getD_eq_getElem?_getD, List.getElem?_append_left (by omega), ← List.getD_eq_getElem?_getD]
    rw [e1]; exact a3
  · have e1 : (e y0 ++ e y1).getD 1 .undef = (e y1).getD 0 .undef := by
      rw [List.getD_eq_getElem?_getD, List.getElem?_append_right (by omega), ← List.getD_eq_getElem?_getD, a2]
    rw [e1]; exact b3
theorem OpnFs.nil (n : Nat) : OpnFs P n n [] Unit (fun _ => []) (fun _ => True) :=
  fun _ _ _ _ _ _ _ _ _ => ⟨(), trivial, rfl, fun j hj => by simp at hj⟩
theorem OpnFs.cons {k n m : Nat} {f : Field} {r : List Field} {X Y : Type} {e : X → List AV} {V : X → Prop} {e' : Y → List AV} {V' : Y → Prop} (hk : f.offset = k) (hm : P.cellsOf f.type = m) (hn : k + m ≤ n)
    (o : Opn P f.type X e V) (o' : OpnFs P (k + m) n r Y e' V') : OpnFs P k n (f :: r) (X × Y) (fun y => e y.1 ++ e' y.2) (fun y => V y.1 ∧ V' y.2) := by
  intro H enc w spare held fuel cs hcs hf
  obtain ⟨x, hx, hxw⟩ := hf f (by simp)
  obtain ⟨y1, g1, g2, g3⟩ := o H enc w spare held fuel _ x hx hxw
  obtain ⟨y2, k1, k2, k3⟩ := o' H enc w spare held fuel cs hcs (fun g hg => hf g (by simp [hg]))
  have hlen : ((cs.drop f.offset).take (P.cellsOf f.type)).length = m := by simp [hk, hm]; omega
  have hsub : ∀ j, j < m → ((cs.drop f.offset).take (P.cellsOf f.type)).getD j undef = cs.getD (k + j) undef := fun j hj => by
    simp [List.getD_eq_getElem?_getD, hk, hm, hj]
  refine ⟨(y1, y2), ⟨g1, k1⟩, by simp; omega, fun j hj => ?_⟩
  simp only [List.length_append] at hj
  by_cases hjm : j < m
  · have e1 : (e y1 ++ e' y2).getD j .undef = (e y1).getD j .undef := by
      rw [List.getD_eq_getElem?_getD, List.getElem?_append_left (by omega), ← List.getD_eq_getElem?_getD]
    have := g3 j (by omega)
    rw [hsub j hjm] at this
    rw [e1]; exact this
  · have e1 : (e y1 ++ e' y2).getD j .undef = (e' y2).getD (j - m) .undef := by
      rw [List.getD_eq_getElem?_getD, List.getElem?_append_right (by omega), ← List.getD_eq_getElem?_getD, g2, hlen]
    have := k3 (j - m) (by omega)
    have e2 : k + m + (j - m) = k + j := by omega
    rw [e2] at this
    rw [e1]; exact this
end

/-- The heap that knows of nothing. -/
def Hp0 : Hp := ⟨fun _ => .none, fun _ _ => 0, fun _ _ => rfl⟩
def Env0 : Env := ⟨fun _ => default, fun _ => undef⟩
theorem HRel0 (w : World) : HRel w (InB w) Env0 Hp0 :=
  ⟨fun L hk => by simp [Hp0] at hk, fun L L' hL _ _ => by have := hL.1; simp [Hp0] at this, fun b hb => hb⟩
theorem Opn.arg {P : Program} {t : TypeId} {X : Type} {a : X → AV} {V : X → Prop} (o : Opn P t X (fun x => [a x]) V) {H : Type} {enc : TypeId × Value → H} {w : World} {spare : Nat → Bool} {held : Bool} {v : Value} {d : DataW H} {p : List MemPlace}
    (hv : v.cells = #[v]) (h : DataW.Trod enc P w 0 spare held t v d p) (hw : ∀ n ∈ d.weights P t, n ≤ reachBytes) : ∃ y : X, V y ∧ R w (InB w) (Env0.E Hp0) (a y) v := by
  obtain ⟨fuel, h⟩ := h
  obtain ⟨y, h1, _, h3⟩ := o H enc w spare held fuel _ _ h hw
  rw [hv] at h3
  exact ⟨y, h1, (h3 0 (by simp)).1.mono (fun _ _ => rfl) (fun _ hb => hb) (fun _ _ he => he.elim)⟩
theorem Opn.argAgg {P : Program} {t : TypeId} {X : Type} {a : X → List AV} {V : X → Prop} (o : Opn P t X a V) {H : Type} {enc : TypeId × Value → H} {w : World} {spare : Nat → Bool} {held : Bool} {cs : Array Value} {d : DataW H} {p : List MemPlace}
    (h : DataW.Trod enc P w 0 spare held t (.agg cs) d p) (hw : ∀ n ∈ d.weights P t, n ≤ reachBytes) : ∃ y : X, V y ∧ R w (InB w) (Env0.E Hp0) (.agg (a y)) (.agg cs) := by
  obtain ⟨fuel, h⟩ := h
  obtain ⟨y, h1, h2, h3⟩ := o H enc w spare held fuel _ _ h hw
  refine ⟨y, h1, .agg _ _ (by simpa [Value.cells] using h2.symm) (fun j hj => ?_)⟩
  have := (h3 j (by omega)).1.mono (B' := InB w) (E' := Env0.E Hp0) (fun _ _ => rfl) (fun _ hb => hb) (fun _ _ he => he.elim)
  simpa [Value.cells] using this

theorem Ext0.below {w w' : World} {B' : Nat → Prop} {e' : Env} {h' : Hp} (x : Ext w (InB w) Env0 Hp0 w' B' e' h') : Below w.heap.size w w' :=
  ⟨x.os, x.tape, x.output, x.size, fun k hk => x.keep k hk (fun L hL => by have := hL.1; simp [Hp0] at this)⟩
/-- **A law that answers true.** -/
theorem law_calls {P : Program} {f : FuncId} {args : List AV} (hp : PureF P f args (.bool true)) (w : World) (vs : Array Value) (hs : vs.size = args.length) (hR : ∀ i, i < args.length → R w (InB w) (Env0.E Hp0) (args.getD i .un) (vs.getD i undef)) :
    Calls P f vs w (fun e w' => e = .returned (.bool true) ∧ Below w.heap.size w w') := by
  refine (hp Hp0 w (InB w) Env0 vs (HRel0 w) hs hR).mono ?_
  rintro en w' ⟨v, r, h', B', e', rfl, g2, g3, g4, rfl, _⟩
  have := R_bool g4
  subst this
  exact ⟨rfl, Ext0.below g3⟩
end Go.T
