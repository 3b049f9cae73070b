/- A small logic of programs over plain values, shown sound for the given machine: part 3. -/
import Derived.Test.YtmajndgdfmnchaaT2
import Derived.IntWalk
import Derived.Shelf.Sort.Plain
import Derived.Sort.OwnSortedInts
/- Maps of pairs of ints to pairs of ints: what is found, what is laid in; the frame of labels. -/
namespace Go.T
open Go Go.Gh

def pairA (k : Int × Int) : AV := .agg [.int .i64 k.1, .int .i64 k.2]
def mapE : List ((Int × Int) × (Int × Int)) → Nat → List (AV × AV × Nat)
  | [], _ => []
  | e :: r, i => (pairA e.1, pairA e.2, i) :: mapE r (i + 1)
theorem mapE_length : ∀ (es : List ((Int × Int) × (Int × Int))) (i : Nat), (mapE es i).length = es.length := by
  intro es
  induction es with
  | nil => intro i; rfl
  | cons e r ih => intro i; simp [mapE, ih]
theorem mapE_append : ∀ (es fs : List ((Int × Int) × (Int × Int))) (i : Nat), mapE (es ++ fs) i = mapE es i ++ mapE fs (i + es.length) := by
  intro es
  induction es with
  | nil => intro fs i; simp [mapE]
  | cons e r ih =>
    intro fs i
    have : i + 1 + r.length = i + (r.length + 1) := by omega
    simp [mapE, ih, this]
def idxE (k : Int × Int) : List ((Int × Int) × (Int × Int)) → Nat → Option Nat
  | [], _ => .none
  | e :: r, i => if e.1 = k then some i else idxE k r (i + 1)
theorem keyEq_pair (a b : Int) (k : Int × Int) : keyEq [.int .i64 a, .int .i64 b] (pairA k) = some (decide (k = (a, b))) := by
  obtain ⟨c, d⟩ := k
  simp only [keyEq, pairA, cellsEq_cons, cellsEq_nil, Option.map_some]
  simp only [Prod.mk.injEq, Option.some.injEq, Bool.and_true]
  by_cases h1 : a = c
  · by_cases h2 : b = d
    · simp [h1, h2]
    · have h2' : ¬ d = b := fun e => h2 e.symm
      simp [h1, h2, h2']
  · have h1' : ¬ c = a := fun e => h1 e.symm
    simp [h1, h1']
theorem findM_mapE (a b : Int) : ∀ (es : List ((Int × Int) × (Int × Int))) (i j : Nat), findM [.int .i64 a, .int .i64 b] (mapE es j) i = some (idxE (a, b) es i) := by
  intro es
  induction es with
  | nil => intro i j; rfl
  | cons e r ih =>
    intro i j
    simp only [mapE, findM, keyEq_pair, idxE]
    by_cases h : e.1 = (a, b)
    · simp [h]
    · simp [h, ih]
theorem idxE_look (k : Int × Int) : ∀ (es : List ((Int × Int) × (Int × Int))) (i j : Nat), match idxE k es i with
    | some m => ∃ v, lookF es k = some v ∧ i ≤ m ∧ m < i + es.length ∧ ∀ hm : m - i < (mapE es j).length, ((mapE es j)[m - i]).2.1 = pairA v
    | .none => lookF es k = .none := by
  intro es
  induction es with
  | nil => intro i j; simp [idxE, lookF]
  | cons e r ih =>
    intro i j
    by_cases h : e.1 = k
    · simp only [idxE, h, if_true]
      refine ⟨e.2, by simp [lookF, h], Nat.le_refl _, by simp, fun hm => by simp [mapE]⟩
    · simp only [idxE, h, if_false]
      have hk : lookF (e :: r) k = lookF r k := by
        have : (e.1 == k) = false := by simpa using h
        simp [lookF, this]
      have := ih (i + 1) (j + 1)
      cases hx : idxE k r (i + 1) with
      | none => rw [hx] at this; simp only at this ⊢; rw [hk]; exact this
      | some m =>
        rw [hx] at this
        simp only at this ⊢
        obtain ⟨v, h1, h2, h3, h4⟩ := this
        refine ⟨v, by rw [hk]; exact h1, by omega, by simp; omega, fun hm => ?_⟩
        obtain ⟨q, hq⟩ : ∃ q, m - i = q + 1 := ⟨m - i - 1, by omega⟩
        have hq2 : m - (i + 1) = q := by omega
        have hm2 : m - (i + 1) < (mapE r (j + 1)).length := by
          rw [mapE_length] at hm ⊢; simp at hm; omega
        have := h4 hm2
        simp only [hq2] at this
        simp only [hq, mapE, List.getElem_cons_succ]
        exact this

def lookV (z : AV) : Option (Int × Int) → AV
  | some v => .tup [pairA v, .bool true]
  | .none => .tup [z, .bool false]
@[go_sem] theorem lookV_n {z} : lookV z .none = .tup [z, .bool false] := by simp [lookV]
@[go_sem] theorem lookV_s {z v} : lookV z (some v) = .tup [.agg [.int .i64 v.1, .int .i64 v.2], .bool true] := by simp [lookV, pairA]
theorem LookX.kv {es : List ((Int × Int) × (Int × Int))} {a b : Int} {z : AV} {K : AV → Prop} {u : Tok K} (h : K (lookV z (lookF es (a, b)))) : LookX [.int .i64 a, .int .i64 b] (mapE es 0) true z K u := by
  refine LookX.of (findM_mapE a b es 0 0) ?_
  have := idxE_look (a, b) es 0 0
  cases hx : idxE (a, b) es 0 with
  | none => rw [hx] at this; simp only at this; rw [this] at h; exact h
  | some m =>
    rw [hx] at this
    obtain ⟨v, h1, h2, h3, h4⟩ := this
    rw [h1] at h
    have hm : m < (mapE es 0).length := by rw [mapE_length]; omega
    refine ⟨hm, ?_⟩
    have := h4 (by simpa using hm)
    simp only [Nat.sub_zero] at this
    rw [this]
    exact h
theorem EntryX.kv {H : Hp} {L : Lab} {es : List ((Int × Int) × (Int × Int))} {n : Nat} {z : AV} {a b : Int} {K : AV → Hp → Prop} {u : Tok K} (hn : lookF es (a, b) = .none)
    (h : K (.tup [z, .int .i64 n]) (H.set L (.mp (mapE es 0 ++ [(.agg [.int .i64 a, .int .i64 b], z, n)]) (n + 1)))) : EntryX H L (mapE es 0) n z [.int .i64 a, .int .i64 b] K u := by
  refine EntryX.of (findM_mapE a b es 0 0) ?_
  have := idxE_look (a, b) es 0 0
  cases hx : idxE (a, b) es 0 with
  | none => exact h
  | some m =>
    rw [hx] at this
    obtain ⟨v, h1, _⟩ := this
    rw [hn] at h1; exact absurd h1 (by simp)
theorem findB_mapE (n : Nat) (e : AV × AV × Nat) (he : e.2.2 = n) : ∀ (es : List ((Int × Int) × (Int × Int))) (i j : Nat), j + es.length ≤ n → findB n (mapE es j ++ [e]) i = some (i + es.length) := by
  intro es
  induction es with
  | nil => intro i j _; simp [mapE, findB, he]
  | cons x r ih =>
    intro i j hj
    simp only [List.length_cons] at hj
    have h1 : ¬ ((j : Nat) : Int) = (n : Int) := by omega
    simp only [mapE, List.cons_append, findB, h1, if_false, List.length_cons]
    rw [ih (i + 1) (j + 1) (by omega)]
    congr 1; omega
theorem StoreX.kv {H : Hp} {L : Lab} {es : List ((Int × Int) × (Int × Int))} {n : Nat} {z : AV} {a b c d : Int} {K : Hp → Prop} {u : Tok K} (hn : n = es.length)
    (h : K (H.set L (.mp (mapE (es ++ [((a, b), (c, d))]) 0) (n + 1)))) : StoreX H L (mapE es 0 ++ [(.agg [.int .i64 a, .int .i64 b], z, n)]) (n + 1) (.agg [.int .i64 c, .int .i64 d]) (n : Int) K u := by
  refine StoreX.of (findB_mapE n _ rfl es 0 0 (by omega)) ?_
  refine ⟨by simp [mapE_length], ?_⟩
  have e1 : (mapE es 0 ++ [(AV.agg [.int .i64 a, .int .i64 b], z, n)])[0 + es.length]'(by simp [mapE_length]) = (AV.agg [.int .i64 a, .int .i64 b], z, n) := by
    rw [List.getElem_append_right (by simp [mapE_length])]; simp [mapE_length]
  rw [e1]
  have e2 : (mapE es 0 ++ [(AV.agg [.int .i64 a, .int .i64 b], z, n)]).set (0 + es.length) (AV.agg [.int .i64 a, .int .i64 b], AV.agg [.int .i64 c, .int .i64 d], n) = mapE (es ++ [((a, b), (c, d))]) 0 := by
    rw [List.set_append_right _ _ (by simp [mapE_length]), mapE_append]
    simp [mapE_length, mapE, pairA, hn]
  simp only [e2]
  exact h

/-- What was found outside these labels is aas it was. -/
def Fr (S : List Lab) (h H : Hp) : Prop := ∀ M, M ∈ S ∨ h.con M = .none ∨ H.con M = h.con M
theorem Fr.refl (S : List Lab) (h : Hp) : Fr S h h := fun _ => .inr (.inr rfl)
theorem Fr.alloc {S : List Lab} {h H : Hp} (k : Fr S h H) (f s : Nat) (c : Con) : Fr S h (H.alloc f s c) := by
  intro M
  rcases k M with h1 | h1 | h1
  · exact .inl h1
  · exact .inr (.inl h1)
  · by_cases hE : M = ⟨f, s, H.cnt f s⟩
    · right; left
      rw [← h1, hE]; exact H.ok _ (by simp)
    · right; right
      rw [← h1]; exact if_neg hE
theorem Fr.set {S : List Lab} {h H : Hp} (k : Fr S h H) {L : Lab} (hL : L ∈ S ∨ h.con L = .none) (c : Con) : Fr S h (H.set L c) := by
  intro M
  by_cases hE : M = L
  · subst hE
    rcases hL with h1 | h1
    · exact .inl h1
    · exact .inr (.inl h1)
  · rcases k M with h1 | h1 | h1
    · exact .inl h1
    · exact .inr (.inl h1)
    · right; right; rw [← h1]; exact if_neg hE
theorem Fr.new {S : List Lab} {h H : Hp} (k : Fr S h H) (f s : Nat) : (⟨f, s, H.cnt f s⟩ : Lab) ∈ S ∨ h.con ⟨f, s, H.cnt f s⟩ = .none := by
  rcases k ⟨f, s, H.cnt f s⟩ with h2 | h2 | h2
  · exact .inl h2
  · exact .inr h2
  · right; rw [← h2]; exact H.ok _ (by simp)
theorem Fr.var {S : List Lab} {h H : Hp} (k : Fr S h H) (f s : Nat) (c c' : Con) : Fr S h ((H.alloc f s c).set ⟨f, s, H.cnt f s⟩ c') := (k.alloc f s c).set (k.new f s) c'
theorem Fr.keeps {S : List Lab} {g h H : Hp} (k : Fr S h H) (hk : Keeps g h) (hS : ∀ L ∈ S, g.con L = .none) : Keeps g H := by
  intro M
  rcases hk M with h1 | h1
  · exact .inl h1
  · rcases k M with h2 | h2 | h2
    · exact .inl (hS M h2)
    · left; rw [← h1]; exact h2
    · right; rw [h2, h1]
theorem con_ne {h : Hp} {A B : Lab} {a b : Con} (hA : h.con A = a) (hB : h.con B = b) (hab : a ≠ b) : (A = B) = False := by
  simp only [eq_iff_iff, iff_false]
  intro hE; subst hE; exact hab (hA.symm.trans hB)
theorem ne_con {h : Hp} {A B : Lab} {a b : Con} (hA : h.con A = a) (hB : h.con B = b) (hab : a ≠ b) : (B = A) = False := by
  have := con_ne hA hB hab
  rw [← this, eq_iff_iff]; exact ⟨fun e => e.symm, fun e => e.symm⟩
theorem CallX.at {P : Program} {f : FuncId} {args : List AV} {h : Hp} {K : AV → Hp → Prop} {u : Tok K} {r : AV} (hc : CallK P f args h (fun r' h' => r' = r ∧ h' = h)) (hk : K r h) : CallX P f args h K u :=
  CallX.of (hc.mono fun _ _ ⟨h1, h2⟩ => by rw [h1, h2]; exact hk)
end Go.T
/- Loops that count. -/
namespace Go.T
open Go
def cntM (ti n : Nat) (s : St) : Nat := match s.slots ti with | .int _ i => ((n : Int) - i).toNat | _ => 0
theorem awp_count {P : Program} {fid : Nat} {T : Nat → List Tg} {c : Code} {Q : Ex → St → Prop} {st : St} (ti tn : Nat) (n : Nat) (hb : n ≤ 9223372036854775807) (J : Nat → St → Prop)
    (h0 : st.slots ti = .int .i64 0) (h1 : st.slots tn = .int .i64 n) (hJ : J 0 st)
    (step : ∀ (i : Nat) (s : St), i < n → decide ((i : Int) < n) = true → IntKind.i64.wrap ((i : Int) + 1) = ((i + 1 : Nat) : Int) → s.slots ti = .int .i64 i → s.slots tn = .int .i64 n → J i s →
      awp P fid T c (thenQ (fun s' => s'.slots ti = .int .i64 ((i + 1 : Nat) : Int) ∧ s'.slots tn = .int .i64 n ∧ J (i + 1) s') Q) s)
    (last : ∀ s : St, decide ((n : Int) < n) = false → s.slots ti = .int .i64 n → s.slots tn = .int .i64 n → J n s → awp P fid T c (thenQ (fun _ => False) Q) s) :
    awp P fid T (.loop c) Q st := by
  have hm : ∀ (s : St) (i : Nat), s.slots ti = .int .i64 i → cntM ti n s = n - i := by
    intro s i h; unfold cntM; rw [h]; show ((n : Int) - i).toNat = n - i; omega
  simp only [awp]
  refine ⟨fun s => ∃ i : Nat, i ≤ n ∧ s.slots ti = .int .i64 i ∧ s.slots tn = .int .i64 n ∧ J i s, cntM ti n, ⟨0, Nat.zero_le _, by simpa using h0, h1, hJ⟩, ?_⟩
  rintro s ⟨i, hi, g0, g1, gJ⟩
  by_cases hlt : i < n
  · refine awp_mono (step i s hlt (by simpa using hlt) (by rw [IntWalk.i64_in _ (by omega)]; simp) g0 g1 gJ) fun x s' hs => ?_
    cases x with
    | normal =>
      obtain ⟨k0, k1, kJ⟩ := hs
      exact ⟨⟨i + 1, hlt, k0, k1, kJ⟩, by rw [hm s' _ k0, hm s _ g0]; omega⟩
    | exit id => exact hs
    | ret => exact hs
  · have : i = n := by omega
    subst this
    refine awp_mono (last s (by simp) g0 g1 gJ) fun x s' hs => ?_
    cases x with
    | normal => exact hs.elim
    | exit id => exact hs
    | ret => exact hs
end Go.T
/- slices.Sort at ints, by the library's contract. -/
namespace Go.T
open Go Go.Proofs Go.Shelf Go.Sort
theorem Ext.grow {w : World} {B : Nat → Prop} {e : Env} {h : Hp} (os : Array Obj) : Ext w B e h (Go.Sort.grow w os) B e h where
  size := by simp [Go.Sort.grow]
  os := rfl
  tape := rfl
  output := rfl
  bsub _ h := h
  bnew _ h := .inl h
  keep b hb _ := heap_grow_old _ _ hb
  onew L hL := .inl ⟨L, hL, rfl⟩
  cnt _ _ := Nat.le_refl _
  env _ _ := ⟨rfl, rfl⟩
  live _ _ h := h
theorem HRel.grow {w : World} {B : Nat → Prop} {e : Env} {h : Hp} (hh : HRel w B e h) (os : Array Obj) : HRel (Go.Sort.grow w os) B e h := by
  refine hh.free (by simp [Go.Sort.grow]) fun b hb => heap_grow_old _ _ ?_
  rcases hb with hb | ⟨L, hL, rfl⟩
  · exact hh.bnd b hb
  · exact (hh.lt hL).1
theorem putCells_getD (zs : List Int) (off k : Nat) (c : Array Value) (hk : k < c.size) :
    (putCells (Value.int .i64) off zs.toArray c).getD k undef = if off ≤ k ∧ k < off + zs.length then Value.int .i64 (zs.getD (k - off) 0) else c.getD k undef := by
  simp only [putCells, Array.getD_eq_getD_getElem?]
  rw [Array.getElem?_mapIdx, Array.getElem?_eq_getElem hk]
  simp only [Option.map_some, Option.getD_some, List.size_toArray]
  by_cases hc : off ≤ k ∧ k < off + zs.length
  · rw [if_pos hc, if_pos hc]
    have : k - off < zs.length := by omega
    simp [this]
  · rw [if_neg hc, if_neg hc]
theorem CallK.sortInts {P : Program} {ρ : Ren} (Ly : Lays.n189 P ρ) {f : FuncId} (hf : ρ.f 189 = f) (L : Lab) (xs : List Int) (hne : xs ≠ []) (hlen : xs.length < 2 ^ 60) (h : Hp) (hL : h.con L = .arr 1 (xs.map (AV.int .i64))) (K : AV → Hp → Prop)
    (hK : K (.tup []) (h.set L (.arr 1 ((xs.mergeSort (fun x y => decide (x ≤ y))).map (AV.int .i64))))) : CallK P f [.os L] h K := by
  subst hf
  intro w B e vs hh hs hR
  have r0 := hR 0 (by simp)
  simp only [List.getD_cons_zero] at r0
  cases r0 with
  | ref _ _ hr =>
    obtain ⟨hk, _, hl⟩ := hr
    have hlive : (h.con L).live := by rw [hL]; trivial
    have hv := hl hlive
    have hc := hh.con L hk
    rw [hL] at hc
    obtain ⟨a, cap, hη, hle, hcells, hcase⟩ := hc
    have hpos : 0 < xs.length := List.length_pos_iff.2 hne
    rw [List.length_map] at hle hη
    rcases hcase with h0 | ⟨ha, hsp, hnB, vs', T, hb, hsz, hrow⟩
    · omega
    have hβ : e.β L = ⟨(e.β L).block, (e.β L).off, .none⟩ := by
      cases hx : e.β L with
      | mk b o s => rw [hx] at hsp; simp only at hsp; subst hsp; rfl
    generalize hbk : (e.β L).block = blk at *
    generalize hof : (e.β L).off = off at *
    have hcap : off + xs.length ≤ vs'.size := by omega
    have hcell : ∀ j (hj : j < xs.length), vs'.getD (off + j) undef = .int .i64 xs[j] := by
      intro j hj
      have := (hrow j 0 (by simpa using hj) (by omega)).1
      simp only [List.getElem_map, AV.cells, List.getD_cons_zero, Nat.mul_one, Nat.add_zero] at this
      exact R_int this
    have hblk : blk < w.heap.size := (Array.getElem?_eq_some_iff.1 hb).1
    have hH : Holds (Value.int .i64) w blk off xs.toArray := by
      intro j hj
      have hj' : j < xs.length := by simpa using hj
      refine ⟨?_, by simp [World.frozen?, hb]⟩
      have := hcell j hj'
      rw [Array.getD_eq_getD_getElem?, Array.getElem?_eq_getElem (by omega)] at this
      simp only [World.cell?, hb, Option.isSome_none, Bool.false_eq_true, if_false]
      rw [Array.getElem?_eq_getElem (by omega)]
      simp at this
      simp [this, hj']
    have hvs : vs = #[.slice (some ⟨blk, off, none⟩) xs.length cap] := by
      apply Array.ext
      · simpa using hs
      · intro i hi1 hi2
        have hi : i = 0 := by simp at hi2; omega
        subst hi
        rw [hη, ha, hβ] at hv
        rw [Array.getD_eq_getD_getElem?, Array.getElem?_eq_getElem hi1] at hv
        simpa using hv
    subst hvs
    refine (Any.slices_Sort_int Ly blk off cap xs w hH hblk (by omega)).mono ?_
    rintro en w' ⟨rfl, n, os, rfl⟩
    generalize hys : xs.mergeSort (fun x y => decide (x ≤ y)) = ys at hK ⊢
    have hyl : ys.length = xs.length := by rw [← hys, List.length_mergeSort]
    have hhas : e.has h L := ⟨hk, by rw [hL]; exact ⟨_, _, _, hη, by omega⟩⟩
    have hheap : ∀ b, b ≠ blk → (putRow (Value.int .i64) (Sort.ahead w n) blk off ys.toArray).heap[b]? = w.heap[b]? := by
      intro b hb'
      simp [putRow, mapBlock, Sort.ahead, Array.getElem?_modify, Ne.symm hb']
    have hhit : (putRow (Value.int .i64) (Sort.ahead w n) blk off ys.toArray).heap[blk]? = some (.cells (putCells (Value.int .i64) off ys.toArray vs') T (0, 0)) := by
      simp [putRow, mapBlock, Sort.ahead, Array.getElem?_modify, hb, onCells]
    have hsize : (putRow (Value.int .i64) (Sort.ahead w n) blk off ys.toArray).heap.size = w.heap.size := by simp [putRow, mapBlock, Sort.ahead]
    have x1 := Ext.write (B := B) (c := .arr 1 (ys.map (AV.int .i64))) hhas hlive hsize rfl rfl rfl (by rw [hbk]; exact hheap)
    have hhas' : e.has (h.set L (.arr 1 (ys.map (AV.int .i64)))) L := ⟨hk, by rw [set_con_eq hlive]; exact ⟨_, _, _, hη, by omega⟩⟩
    have h1 := hh.write hhas hlive hsize rfl rfl rfl (by rw [hbk]; exact hheap) hhas' (by
      refine ⟨a, cap, by rw [hη, List.length_map, hyl], by rw [List.length_map]; omega, fun i hi => by simp [AV.cells], .inr ⟨ha, hsp, hbk ▸ hnB, putCells (Value.int .i64) off ys.toArray vs', T, by rw [hbk]; exact hhit, by rw [hof]; simpa [putCells] using hsz, ?_⟩⟩
      intro i j hi hj
      have hi' : i < ys.length := by simpa using hi
      have hj' : j = 0 := by omega
      subst hj'
      rw [hof, putCells_getD _ _ _ _ (by omega), if_pos (by omega)]
      simp [AV.cells, hi', List.getD_eq_getElem?_getD, show off + i - off = i by omega]
      exact ⟨.int _ _, by simp [Value.oneCell']⟩)
    have x2 := x1.trans (Ext.grow (B := B) (e := e) (h := h.set L (.arr 1 (ys.map (AV.int .i64)))) os)
    exact ⟨.tuple #[], .tup [], _, B, e, rfl, h1.grow os, x2, .tup _ _ rfl (fun j hj => absurd hj (by simp)), hK⟩
  | _ => skip
end Go.T
/- Freezing: what is mutable no more is a value. -/
namespace Go.T
open Go

mutual
/-- A value in which label L, which holds c, is read aas what c says. -/
def AV.frz (L : Lab) (c : Con) : AV → AV
  | .os M => if M = L then (match c with | .arr sz xs => .l false sz xs | _ => .os M) else .os M
  | .pt M sz i j => if M = L then (match c with | .blk cs => if i = 0 then .ip (cs.drop j) else .pt M sz i j | _ => .pt M sz i j) else .pt M sz i j
  | .l ex sz xs => .l ex sz (AV.frzs L c xs)
  | .ip cs => .ip (AV.frzs L c cs)
  | .agg cs => .agg (AV.frzs L c cs)
  | .tup cs => .tup (AV.frzs L c cs)
  | .fn f cs => .fn f (AV.frzs L c cs)
  | v => v
def AV.frzs (L : Lab) (c : Con) : List AV → List AV
  | [] => []
  | x :: r => AV.frz L c x :: AV.frzs L c r
end
theorem frzs_map (L : Lab) (c : Con) : ∀ xs, AV.frzs L c xs = xs.map (AV.frz L c) := by
  intro xs
  induction xs with
  | nil => rfl
  | cons x r ih => simp [AV.frzs, ih]
theorem frz_cells (L : Lab) (c : Con) (a : AV) : (a.frz L c).cells = a.cells.map (AV.frz L c) := by
  cases a with
  | agg cs => simp [AV.frz, AV.cells, frzs_map]
  | os M =>
    by_cases hM : M = L
    · cases c <;> simp [AV.frz, AV.cells, hM]
    · simp [AV.frz, AV.cells, hM]
  | pt M sz i j =>
    by_cases hM : M = L
    · cases c with
      | blk cs => by_cases hi : i = 0 <;> simp [AV.frz, AV.cells, hM, hi]
      | _ => simp [AV.frz, AV.cells, hM]
    · simp [AV.frz, AV.cells, hM]
  | _ => simp [AV.frz, AV.cells]
theorem frz_undef (L : Lab) (c : Con) : AV.undef.frz L c = .undef := by simp [AV.frz]
theorem frz_getD (L : Lab) (c : Con) (l : List AV) (j : Nat) : (l.map (AV.frz L c)).getD j .undef = (l.getD j .undef).frz L c := by
  simp only [List.getD_eq_getElem?_getD, List.getElem?_map]
  cases l[j]? <;> simp [frz_undef]

section
variable {w : World} {B : Nat → Prop} {e : Env} {h : Hp} {L : Lab}
/-- The blocks that don't turn any more, L's too. -/
def frzB (B : Nat → Prop) (e : Env) (h : Hp) (L : Lab) (b : Nat) : Prop := B b ∨ (e.has h L ∧ b = (e.β L).block)

theorem set_none_con (M : Lab) : (h.set L .none).con M = if M = L then .none else h.con M := by
  simp only [Hp.set]
  split
  · cases h.con L <;> rfl
  · rfl
theorem set_cnt' (c : Con) : (h.set L c).cnt = h.cnt := rfl

theorem drop_none (M : Lab) : (h.set L .none).con M = .none ∨ (h.set L .none).con M = h.con M := by
  rw [set_none_con]
  by_cases hE : M = L
  · rw [if_pos hE]; exact .inl rfl
  · rw [if_neg hE]; exact .inr rfl
theorem E_frz {a : AV} {v : Value} (hE : e.E h a v) : e.E (h.set L .none) a v := by
  have live : ∀ M, ((h.set L .none).con M).live → (h.con M).live := fun M hl => by
    rcases drop_none (h := h) (L := L) M with h1 | h1
    · rw [h1] at hl; exact hl.elim
    · rwa [h1] at hl
  cases a with
  | pt M sz i j => exact ⟨hE.1, hE.2.1, fun hl => hE.2.2 (live M hl)⟩
  | os M => exact ⟨hE.1, hE.2.1, fun hl => hE.2.2 (live M hl)⟩
  | mr M => exact ⟨hE.1, hE.2.1, fun hl => hE.2.2 (live M hl)⟩
  | yl M => exact hE
  | _ => exact hE.elim
theorem R_keep {a : AV} {v : Value} (hR : R w B (e.E h) a v) : R w (frzB B e h L) (e.E (h.set L .none)) a v :=
  hR.mono (fun _ _ => rfl) (fun _ hb => .inl hb) (fun _ _ => E_frz)

theorem R_frz (hh : HRel w B e h) {a : AV} {v : Value} (hR : R w B (e.E h) a v) : R w (frzB B e h L) (e.E (h.set L .none)) (a.frz L (h.con L)) v := by
  induction hR with
  | undef v => exact .undef v
  | un => exact .un
  | int k n => exact .int k n
  | bool b => exact .bool b
  | str s => exact .str s
  | nilp => exact .nilp
  | nilf => exact .nilf
  | nilm => exact .nilm
  | l0 ex sz a c hx => exact .l0 ex sz a c hx
  | l ex sz xs b off cap vs h1 h2 h3 h4 h5 h6 h7 h8 ih =>
    simp only [AV.frz, frzs_map]
    have := R.l (E := e.E (h.set L .none)) (w := w) (B := frzB B e h L) ex sz (xs.map (AV.frz L (h.con L))) b off cap vs (by simpa using h1) (by simpa using h2) (by simpa using h3) (.inl h4)
      (fun i hi => by simp only [List.getElem_map, frz_cells, List.length_map]; exact h5 i (by simpa using hi))
      (fun i j hi hj => h6 i j (by simpa using hi) hj)
      (fun i j hi hj => by simp only [List.getElem_map, frz_cells, frz_getD]; exact ih i j (by simpa using hi) hj)
      (fun i j hi hj => h8 i j (by simpa using hi) hj)
    simpa using this
  | ip cs b off vs h1 h2 h3 ih =>
    simp only [AV.frz, frzs_map]
    exact .ip _ b off vs (.inl h1) (fun j hj => h2 j (by simpa using hj)) (fun j hj => by rw [frz_getD]; exact ih j (by simpa using hj))
  | agg cs vs h1 h2 ih =>
    simp only [AV.frz, frzs_map]
    exact .agg _ vs (by simpa using h1) (fun j hj => by rw [frz_getD]; exact ih j (by simpa using hj))
  | tup cs vs h1 h2 ih =>
    simp only [AV.frz, frzs_map]
    exact .tup _ vs (by simpa using h1) (fun j hj => by rw [frz_getD]; exact ih j (by simpa using hj))
  | fn f cs vs h1 h2 ih =>
    simp only [AV.frz, frzs_map]
    exact .fn f _ vs (by simpa using h1) (fun j hj => by rw [frz_getD]; exact ih j (by simpa using hj))
  | ref a v hE =>
    have plain : R w (frzB B e h L) (e.E (h.set L .none)) a v := .ref _ _ (E_frz hE)
    cases a with
    | os M =>
      simp only [AV.frz]
      split
      · rename_i hM; subst hM
        split
        · rename_i sz xs hcon
          have hk := hE.1
          have hc := hh.con _ hk
          rw [hcon] at hc
          obtain ⟨a', cap, g1, g2, g3, g4⟩ := hc
          have hv := hE.2.2 (by rw [hcon]; trivial)
          rw [hv, g1]
          by_cases hx : xs = []
          · subst hx; exact .l0 _ _ _ _ (fun hf => by simp at hf)
          have hlen : 0 < xs.length := List.length_pos_iff.2 hx
          rcases g4 with g4 | ⟨ga, gs, gB, vs, T, gb, gsz, gr⟩
          · omega
          have hβ : e.β M = ⟨(e.β M).block, (e.β M).off, .none⟩ := by rw [← gs]
          rw [ga, hβ]
          refine .l false sz xs _ _ cap (fun i j => vs.getD ((e.β M).off + (i * sz + j)) undef) hx (fun hf => by simp at hf) g2 (.inr ⟨⟨hk, ?_⟩, rfl⟩) g3 (fun i j hi hj => ?_) (fun i j hi hj => R_keep (gr i j hi hj).1) (fun i j hi hj => (gr i j hi hj).2)
          · rw [hcon]; exact ⟨a', xs.length, cap, g1, by omega⟩
          · refine getD_row gb ?_
            have : (i + 1) * sz ≤ cap * sz := Nat.mul_le_mul_right _ (by omega)
            rw [Nat.add_mul] at this
            omega
        · exact plain
      · exact plain
    | pt M sz i j =>
      simp only [AV.frz]
      split
      · rename_i hM; subst hM
        split
        · rename_i cs hcon
          split
          · rename_i hi; subst hi
            have hk := hE.1
            have hc := hh.con _ hk
            rw [hcon] at hc
            obtain ⟨gB, goff, vs, T, gb, gsz, gr⟩ := hc
            have hv := hE.2.2 (by rw [hcon]; trivial)
            rw [hv]
            refine .ip _ _ _ (fun x => vs.getD (j + x) undef) (.inr ⟨⟨hk, by rw [hcon]; trivial⟩, rfl⟩) (fun x hx => ?_) (fun x hx => ?_)
            · simp only [List.length_drop] at hx
              rw [goff, Nat.zero_add, Nat.zero_mul, Nat.zero_add]
              exact getD_row gb (by omega)
            · simp only [List.length_drop] at hx
              have e1 : (cs.drop j).getD x .undef = cs.getD (j + x) .undef := by simp
              rw [e1]
              exact R_keep (gr (j + x) (by omega))
          · exact plain
        · exact plain
      · exact plain
    | mr M => exact plain
    | yl M => exact plain
    | _ => exact hE.elim

theorem has_frz {M : Lab} (hM : e.has (h.set L .none) M) : M ≠ L ∧ e.has h M := by
  obtain ⟨hk, hm⟩ := hM
  have hne : M ≠ L := fun hE => by
    rw [set_none_con, if_pos hE] at hm; exact hm
  refine ⟨hne, hk, ?_⟩
  rw [set_none_con, if_neg hne] at hm
  exact hm
theorem HRel_frz (hh : HRel w B e h) : HRel w (frzB B e h L) e (h.set L .none) := by
  refine ⟨fun M hk => ?_, fun M M' hM hM' hb => hh.inj _ _ (has_frz hM).2 (has_frz hM').2 hb, fun b hb => ?_⟩
  · have hcon := hh.con M hk
    rw [set_none_con]
    by_cases hE : M = L
    · rw [if_pos hE]; trivial
    rw [if_neg hE]
    have nb : e.has h M → ¬ B (e.β M).block → ¬ frzB B e h L (e.β M).block := fun hM hB hb => by
      rcases hb with hb | ⟨hL, hb⟩
      · exact hB hb
      · exact hE (hh.inj _ _ hM hL hb)
    cases hc : h.con M with
    | none => trivial
    | blk cs =>
      rw [hc] at hcon
      obtain ⟨p1, p2, vs, T, p3, p4, p5⟩ := hcon
      exact ⟨nb ⟨hk, by rw [hc]; trivial⟩ p1, p2, vs, T, p3, p4, fun j hj => R_keep (p5 j hj)⟩
    | arr sz xs =>
      rw [hc] at hcon
      obtain ⟨a, cap, p1, p2, p3, p4⟩ := hcon
      refine ⟨a, cap, p1, p2, p3, ?_⟩
      by_cases h0 : cap = 0
      · exact .inl h0
      rcases p4 with p4 | ⟨p4, p5, p6, vs, T, p7, p8, p9⟩
      · exact .inl p4
      · exact .inr ⟨p4, p5, nb ⟨hk, by rw [hc]; exact ⟨_, _, _, p1, h0⟩⟩ p6, vs, T, p7, p8, fun i j hi hj => ⟨R_keep (p9 i j hi hj).1, (p9 i j hi hj).2⟩⟩
    | lp sl n ps asg bd s =>
      rw [hc] at hcon
      obtain ⟨p1, r, p2, p3, p4, p5, p6, p7, p8⟩ := hcon
      exact ⟨nb ⟨hk, by rw [hc]; trivial⟩ p1, r, p2, p3, p4, p5, p6, fun i => R_keep (p7 i), p8⟩
    | mp es ck =>
      rw [hc] at hcon
      obtain ⟨p1, ents, p2, p3, p4⟩ := hcon
      exact ⟨nb ⟨hk, by rw [hc]; trivial⟩ p1, ents, p2, p3, fun j hj => ⟨R_keep (p4 j hj).1, R_keep (p4 j hj).2.1, (p4 j hj).2.2⟩⟩
  · rcases hb with hb | ⟨hL, hb⟩
    · exact hh.bnd b hb
    · subst hb
      have hcon := hh.con L hL.1
      have hm := hL.2
      have lt : ∀ {o : Obj}, w.heap[(e.β L).block]? = some o → (e.β L).block < w.heap.size := fun ho => (Array.getElem?_eq_some_iff.1 ho).1
      cases hc : h.con L with
      | none => rw [hc] at hm; exact hm.elim
      | blk cs =>
        rw [hc] at hcon
        obtain ⟨_, _, vs, T, p3, _⟩ := hcon
        exact lt p3
      | arr sz xs =>
        rw [hc] at hcon hm
        obtain ⟨a, cap, p1, p2, p3, p4⟩ := hcon
        obtain ⟨a', n', c', q1, q2⟩ := hm
        rcases p4 with p4 | ⟨_, _, _, vs, T, p7, _⟩
        · rw [p1] at q1; injection q1 with _ _ q3; omega
        · exact lt p7
      | lp sl n ps asg bd s =>
        rw [hc] at hcon
        obtain ⟨_, r, p2, _⟩ := hcon
        exact lt p2
      | mp es ck =>
        rw [hc] at hcon
        obtain ⟨_, ents, p2, _⟩ := hcon
        exact lt p2
theorem Ext_frz : Ext w B e h w (frzB B e h L) e (h.set L .none) where
  size := Nat.le_refl _
  os := rfl
  tape := rfl
  output := rfl
  bsub _ hb := .inl hb
  bnew b hb := by
    rcases hb with hb | ⟨hL, hb⟩
    · exact .inl hb
    · exact .inr (.inl ⟨L, hL, hb.symm⟩)
  keep _ _ _ := rfl
  onew M hM := .inl ⟨M, (has_frz hM).2, rfl⟩
  cnt _ _ := Nat.le_refl _
  env _ _ := ⟨rfl, rfl⟩
  live M _ hl := by
    rcases drop_none (h := h) (L := L) M with h1 | h1
    · rw [h1] at hl; exact hl.elim
    · rwa [h1] at hl
end

/-- One value may be taken for another. -/
def Le (a b : AV) : Prop := ∀ (w : World) (B : Nat → Prop) (e : Env) (h : Hp) (v : Value), R w B (e.E h) a v → R w B (e.E h) b v
theorem Le.refl (a : AV) : Le a a := fun _ _ _ _ _ h => h
theorem Le.l {ex : Bool} {sz : Nat} {xs : List AV} : Le (.l ex sz xs) (.l false sz xs) := by
  intro w B e h v hR
  cases hR with
  | l0 _ _ a c hx => exact .l0 _ _ _ _ (fun h => by simp at h)
  | l _ _ _ b off cap vs h1 h2 h3 h4 h5 h6 h7 h8 => exact .l _ _ _ _ _ _ vs h1 (fun h => by simp at h) h3 h4 h5 h6 h7 h8
  | ref _ _ h => exact h.elim
theorem Le.l0 {ex : Bool} {sz sz' : Nat} : Le (.l ex sz []) (.l false sz' []) := by
  intro w B e h v hR
  cases hR with
  | l0 _ _ a c hx => exact .l0 _ _ _ _ (fun h => by simp at h)
  | l _ _ _ b off cap vs h1 => exact absurd rfl h1
  | ref _ _ h => exact h.elim
theorem Le.l0t {sz sz' : Nat} : Le (.l true sz []) (.l true sz' []) := by
  intro w B e h v hR
  cases hR with
  | l0 _ _ a c hx => exact .l0 _ _ _ _ hx
  | l _ _ _ b off cap vs h1 => exact absurd rfl h1
  | ref _ _ h => exact h.elim
theorem Le.tup {aas bs : List AV} (hl : aas.length = bs.length) (h : ∀ j, j < bs.length → Le (aas.getD j .undef) (bs.getD j .undef)) : Le (.tup aas) (.tup bs) := by
  intro w B e hh v hR
  obtain ⟨vs, rfl, h1, h2⟩ := R_tup hR
  exact .tup _ vs (by rw [h1, hl]) (fun j hj => h j hj _ _ _ _ _ (h2 j (by rw [hl]; exact hj)))
theorem Le.agg {aas bs : List AV} (hl : aas.length = bs.length) (h : ∀ j, j < bs.length → Le (aas.getD j .undef) (bs.getD j .undef)) : Le (.agg aas) (.agg bs) := by
  intro w B e hh v hR
  obtain ⟨vs, rfl, h1, h2⟩ := R_agg hR
  exact .agg _ vs (by rw [h1, hl]) (fun j hj => h j hj _ _ _ _ _ (h2 j (by rw [hl]; exact hj)))
theorem Le.trans {a b c : AV} (h1 : Le a b) (h2 : Le b c) : Le a c := fun w B e h v hR => h2 w B e h v (h1 w B e h v hR)

/-- A value, label by label frozen, comes to r; the heap lets the labels go. -/
inductive Frz : Hp → AV → Hp → AV → Prop
  | done (h : Hp) (a r : AV) : Le a r → Frz h a h r
  | step (h : Hp) (L : Lab) (a : AV) (h' : Hp) (r : AV) : Frz (h.set L .none) (a.frz L (h.con L)) h' r → Frz h a h' r
theorem Frz.sound {w : World} {h h' : Hp} {a r : AV} (f : Frz h a h' r) : ∀ {B : Nat → Prop} {e : Env} {v : Value}, HRel w B e h → R w B (e.E h) a v →
    ∃ B', HRel w B' e h' ∧ Ext w B e h w B' e h' ∧ R w B' (e.E h') r v := by
  induction f with
  | done h a r hl => exact fun hh hR => ⟨_, hh, Ext.refl _ _ _ _, hl _ _ _ _ _ hR⟩
  | step h L a h' r _ ih =>
    intro B e v hh hR
    obtain ⟨B', h1, h2, h3⟩ := ih (HRel_frz hh) (R_frz hh hR)
    exact ⟨B', h1, Ext_frz.trans h2, h3⟩
theorem Frz.keeps {h h' : Hp} {a r : AV} (f : Frz h a h' r) : ∀ L, h'.con L = .none ∨ h'.con L = h.con L := by
  induction f with
  | done h a r hl => exact fun L => .inr rfl
  | step h M a h' r _ ih =>
    intro L
    rcases ih L with h1 | h1
    · exact .inl h1
    · rcases drop_none (h := h) (L := M) L with h2 | h2
      · left; rw [h1, h2]
      · right; rw [h1, h2]

/-- **A function's answer, frozen.** -/
theorem CallK.frz {P : Program} {f : Nat} {args : List AV} {h : Hp} {K : AV → Hp → Prop} (hc : CallK P f args h (fun r h' => ∃ h'' r', Frz h' r h'' r' ∧ K r' h'')) : CallK P f args h K := by
  intro w B e vs h1 h2 h3
  refine (hc w B e vs h1 h2 h3).mono ?_
  rintro en w' ⟨v, r, h', B', e', rfl, g2, g3, g4, h'', r', g5, g6⟩
  obtain ⟨B'', k1, k2, k3⟩ := g5.sound g2 g4
  exact ⟨v, r', h'', B'', e', rfl, k1, g3.trans k2, k3, g6⟩

/-- **Arguments, frozen.** -/
theorem CallK.frzArg {P : Program} {f : Nat} {args : List AV} {h : Hp} {K : AV → Hp → Prop} (L : Lab) (hc : CallK P f (args.map (AV.frz L (h.con L))) (h.set L .none) K) : CallK P f args h K := by
  intro w B e vs h1 h2 h3
  refine (hc w _ e vs (HRel_frz (L := L) h1) (by simpa using h2) (fun i hi => ?_)).mono ?_
  · have hi' : i < args.length := by simpa using hi
    have := R_frz (L := L) h1 (h3 i hi')
    have e1 : (args.map (AV.frz L (h.con L))).getD i .un = (args.getD i .un).frz L (h.con L) := by
      simp [List.getD_eq_getElem?_getD, hi']
    rw [e1]; exact this
  · rintro en w' ⟨v, r, h', B', e', rfl, g2, g3, g4, g5⟩
    exact ⟨v, r, h', B', e', rfl, g2, Ext_frz.trans g3, g4, g5⟩
theorem CallK.leArg {P : Program} {f : Nat} {args args' : List AV} {h : Hp} {K : AV → Hp → Prop} (hl : args.length = args'.length) (hle : ∀ i, i < args.length → Le (args.getD i .un) (args'.getD i .un)) (hc : CallK P f args' h K) : CallK P f args h K := by
  intro w B e vs h1 h2 h3
  exact hc w B e vs h1 (by rw [h2, hl]) (fun i hi => hle i (by rw [hl]; exact hi) _ _ _ _ _ (h3 i (by rw [hl]; exact hi)))

/-- The end of a pure function whose answer is frozen to r. -/
def endZ (P : Program) (fn : Func) (r : AV) (h : Hp) : Ex → St → Prop
  | .exit _, _ => False
  | _, st => resK P fn.results.toList st (fun vs => ∃ h'', Frz st.hp (oneOf vs) h'' r ∧ Keeps h h'')
theorem PureAt.of_awpZ {P : Program} (hm : P.follows .mixedOrders = true) (T : Nat → List Tg) {f : FuncId} {fn : Func} {c : Code} {args : List AV} {h : Hp} {r : AV} (hf : P.funcs[f]? = some fn) (hb : fn.body = some c) (hok : okCode fn.ntmps T c = true)
    (hl : args.length ≤ fn.ntmps) (hlf : r.lf = true) (hk : awp P f T c (endZ P fn r h) (enter args h)) : CallK P f args h (fun r' h' => r' = r ∧ h' = h) := by
  have hQ : ∀ ex st, endZ P fn r h ex st → endK P fn (fun r' h' => ∃ h'' r'', Frz h' r' h'' r'' ∧ r'' = r ∧ Keeps h h'') ex st := by
    have key : ∀ st, (resK P fn.results.toList st (fun vs => ∃ h'', Frz st.hp (oneOf vs) h'' r ∧ Keeps h h'')) → resK P fn.results.toList st (fun vs => ∃ h' : Hp, (∀ L, h'.con L = .none ∨ h'.con L = st.hp.con L) ∧ h'.cnt = st.hp.cnt ∧ ∃ h'' r'', Frz h' (oneOf vs) h'' r'' ∧ r'' = r ∧ Keeps h h'') := by
      intro st h1
      exact resK_mono h1 fun vs ⟨h'', g1, g2⟩ => ⟨st.hp, fun _ => .inr rfl, rfl, h'', r, g1, rfl, g2⟩
    intro ex st hx
    cases ex with
    | exit id => exact hx.elim
    | normal => exact key st hx
    | ret => exact key st hx
  refine CallK.pure ((CallK.frz (K := fun r' h' => r' = r ∧ Keeps h h') ((CallK.of_awp' hm T hf hb hok hl hQ hk).mono ?_)).mono ?_)
  · rintro r' h' ⟨h'', r'', g1, g2, g3⟩
    exact ⟨h'', r'', g1, g2, g3⟩
  · rintro r' h' ⟨rfl, h2⟩
    exact ⟨hlf, h2, rfl⟩
theorem PureF.of_awpZ {P : Program} (hm : P.follows .mixedOrders = true) (T : Nat → List Tg) {f : FuncId} {fn : Func} {c : Code} {args : List AV} {r : AV} (hf : P.funcs[f]? = some fn) (hb : fn.body = some c) (hok : okCode fn.ntmps T c = true)
    (hl : args.length ≤ fn.ntmps) (hlf : r.lf = true) (hk : ∀ h, awp P f T c (endZ P fn r h) (enter args h)) : PureF P f args r :=
  fun h => PureAt.of_awpZ hm T hf hb hok hl hlf (hk h)
section ends
variable {P : Program} {fn : Func} {r : AV} {h : Hp} {st : St}
@[go_sem ↓, go_sem] theorem endZ_ret : endZ P fn r h .ret st = resK P fn.results.toList st (fun vs => ∃ h'', Frz st.hp (oneOf vs) h'' r ∧ Keeps h h'') := by simp [endZ]
@[go_sem ↓, go_sem] theorem endZ_normal : endZ P fn r h .normal st = resK P fn.results.toList st (fun vs => ∃ h'', Frz st.hp (oneOf vs) h'' r ∧ Keeps h h'') := by simp [endZ]
end ends
theorem CallX.frzArg {P : Program} {f : FuncId} {args : List AV} {h : Hp} {K : AV → Hp → Prop} {u : Tok K} (L : Lab) {c : Con} (hc : h.con L = c) (hk : CallK P f (args.map (AV.frz L c)) (h.set L .none) K) : CallX P f args h K u := by
  subst hc; exact CallK.frzArg L hk
end Go.T
/- A round of a range over a function, out of the abstract run of its body. -/
namespace Go.T
open Go

def putS : List Nat → List AV → St → St
  | p :: ps, a :: aas, st => putS ps aas (st.put (some p) a)
  | _, _, st => st
/-- The assignment to the loop's left sides ends aas it begins. -/
def asgQ (N : St → Prop) : Ex → St → Prop
  | .normal, s => N s
  | _, _ => False
/-- A round's end. -/
def roundQ (L : Lab) (slots : Nat → AV) (n : Nat) (ps : List Nat) (asg body : Code) (K : AV → Hp → Prop) : Ex → St → Prop
  | .normal, s => K (.bool true) (s.hp.back L (.lp slots n ps asg body .ready))
  | .exit id, s => K (.bool false) (s.hp.back L (.lp slots n ps asg body (.done (.exit id))))
  | .ret, s => K (.bool false) (s.hp.back L (.lp slots n ps asg body (.done .ret)))

theorem putS_rel {w : World} {B : Nat → Prop} {e : Env} {n : Nat} : ∀ (ps : List Nat) (aas : List AV) (vs : List Value) (st : St) (tmps : Array Value), aas.length = ps.length → vs.length = ps.length → (∀ p ∈ ps, p < n) →
    tmps.size = n → (∀ i, R w B (e.E st.hp) (st.slots i) (tmps.getD i undef)) → (∀ i, i < aas.length → R w B (e.E st.hp) (aas.getD i .un) (vs.getD i undef)) →
    ((ps.zip vs).foldl (fun t p => t.setIfInBounds p.1 p.2) tmps).size = n ∧ (putS ps aas st).hp = st.hp ∧ ∀ i, R w B (e.E st.hp) ((putS ps aas st).slots i) (((ps.zip vs).foldl (fun t p => t.setIfInBounds p.1 p.2) tmps).getD i undef) := by
  intro ps
  induction ps with
  | nil =>
    intro aas vs st tmps h1 h2 _ h3 h4 _
    have : aas = [] := List.length_eq_zero_iff.1 h1
    subst this
    exact ⟨by simpa using h3, rfl, by simpa [putS] using h4⟩
  | cons p ps ih =>
    intro aas vs st tmps h1 h2 hp h3 h4 h5
    cases aas with
    | nil => simp at h1
    | cons a aas =>
      cases vs with
      | nil => simp at h2
      | cons v vs =>
        have hpn := hp p (by simp)
        have h0 := h5 0 (by simp)
        simp only [List.getD_cons_zero] at h0
        obtain ⟨g1, g2, g3⟩ := ih aas vs (st.put (some p) a) (tmps.setIfInBounds p v) (by simpa using h1) (by simpa using h2) (fun q hq => hp q (by simp [hq])) (by simpa using h3) (fun i => by
          rw [put_slots, put_hp]
          by_cases hi : i = p
          · subst hi
            rw [if_pos rfl]
            have : (tmps.setIfInBounds i v).getD i undef = v := by
              simp only [Array.getD_eq_getD_getElem?]
              rw [Array.getElem?_setIfInBounds_self_of_lt (by omega)]; rfl
            rw [this]; exact h0
          · rw [if_neg hi]
            have : (tmps.setIfInBounds p v).getD i undef = tmps.getD i undef := by
              simp only [Array.getD_eq_getD_getElem?]
              rw [Array.getElem?_setIfInBounds_ne (Ne.symm hi)]
            rw [this]; exact h4 i) (fun i hi => by
          rw [put_hp]
          have := h5 (i + 1) (by simpa using hi)
          simpa using this)
        rw [put_hp] at g2 g3
        exact ⟨by simpa using g1, by simpa [putS] using g2, by simpa [putS] using g3⟩

section
variable {P : Program}
theorem YieldK.of_awpC (hm : P.follows .mixedOrders = true) (fid : Nat) (T : Nat → List Tg) {L : Lab} {args : List AV} {h : Hp} {K : AV → Hp → Prop} {slots : Nat → AV} {n : Nat} {ps : List Nat} {asg bd : Code}
    (hcon : h.con L = .lp slots n ps asg bd .ready) (hn : ntm P fid = n) (hps : ∀ p ∈ ps, p < n) (hok1 : okCode n T asg = true) (hok2 : okCode n T bd = true) (hlen : args.length = ps.length)
    (hk : awp P fid T asg (asgQ (awp P fid T bd (fun x s => (∀ f t, h.cnt f t ≤ s.hp.cnt f t) → roundQ L slots n ps asg bd K x s))) (putS ps args ⟨slots, h.set L .none⟩)) : YieldK P L args h K := by
  intro w B e vs hh hLk hs hargs
  have hL : e.has h L := ⟨hLk, by rw [hcon]; trivial⟩
  have hc := hh.con L hLk
  rw [hcon] at hc
  obtain ⟨hB, r, hrow, hpar, hasg, hbody, hsz, hslots, hst, hpend⟩ := hc
  have hlt : (e.β L).block < w.heap.size := (hh.lt hL).1
  refine ⟨r.fn, _, r.assign, r.body, run_yield hrow (by rw [hs, hlen, ← hpar]; simp), fun ro m => ?_⟩
  rw [hasg, hbody]
  -- the round begins: the record is no one's
  have hx1 : Ext w B e h w B e (h.set L .none) := Ext.drop (fun M => dropc M) rfl
  have hh1 : HRel w B e (h.set L .none) := HRel.drop hh (fun M => dropc M) rfl
  have free1 : ∀ M, e.has (h.set L .none) M → (e.β M).block ≠ (e.β L).block := fun M hM hE => (has_drop hM).1 (hh.inj _ _ (has_drop hM).2 hL hE)
  have hfold : (r.params.zip vs).foldl (fun tmps x => tmps.setIfInBounds x.1 x.2) r.tmps = (ps.zip vs.toList).foldl (fun t p => t.setIfInBounds p.1 p.2) r.tmps := by
    rw [← Array.foldl_toList, Array.toList_zip, hpar]
  obtain ⟨p1, p2, p3⟩ := putS_rel (w := w) (B := B) (e := e) (n := n) ps args vs.toList ⟨slots, h.set L .none⟩ r.tmps hlen (by rw [← hlen, ← hs]; simp) hps hsz (fun i => (hslots i).ext hh hx1) (fun i hi => by
    have := (hargs i hi).ext hh hx1
    simpa using this)
  have hrel : Rel w B e n (putS ps args ⟨slots, h.set L .none⟩) { tmps := (r.params.zip vs).foldl (fun tmps x => tmps.setIfInBounds x.1 x.2) r.tmps, defers := [] } := by
    rw [hfold]
    exact ⟨by rw [p2]; exact hh1, fun i => by rw [p2]; exact p3 i, p1⟩
  have main := awp_sound (w0 := w) (B0 := B) (e0 := e) (h0 := h.set L .none) (n := n) hm fid hn T (some (e.β L).block) w.heap.size (Nat.le_refl _) (fun l0 hl0 => by
    simp only [Option.some.injEq] at hl0; subst hl0; exact ⟨r, hrow, hlt, free1⟩) asg _ _ _ w B e m hok1 hrel (by rw [p2]; exact Ext.refl _ _ _ _) (DefOK.nil _ _ _ _ _) hk
  refine roundIn_of_wpIn (F := wr ro) (n := m) (l := (e.β L).block) trivial (wpIn_mono main ?_)
  rintro ex a1 w1 ⟨x', hx', st1, B1, e1, g1, g2, g3, g4⟩
  have key : awp P fid T bd (fun x s => (∀ f t, h.cnt f t ≤ s.hp.cnt f t) → roundQ L slots n ps asg bd K x s) st1 → ∃ w₂, (Instr.beginRound (e.β L).block).run P w1 = .ok () w₂ ∧ bd.wpIn ((wr ro).inRound (e.β L).block) m P (roundPost P (e.β L).block (fun en w' => ∃ v r h' B' e', en = .returned v ∧ HRel w' B' e' h' ∧ Ext w B e h w' B' e' h' ∧ R w' B' (e'.E h') r v ∧ K r h')) a1 w₂ := by
    intro hbd
    obtain ⟨s1, s2, s3⟩ := unowned_ext g3 hlt free1
    have nb1 : ¬ B1 (e.β L).block := notB_ext g3 hlt free1 hB
    refine ⟨w1.putObj (e.β L).block (.loop { r with state := .busy }), run_beginRound (s2.trans hrow) hst, ?_⟩
    have hother1 : ∀ b, (B1 b ∨ ∃ M, e1.has st1.hp M ∧ (e1.β M).block = b) → (w1.putObj (e.β L).block (.loop { r with state := .busy })).heap[b]? = w1.heap[b]? := by
      rintro b (hb | ⟨M, hM, rfl⟩)
      · exact World.putObj_heap_other (fun hE => nb1 (hE ▸ hb))
      · exact World.putObj_heap_other (s3 M hM)
    have hh2 : HRel (w1.putObj (e.β L).block (.loop { r with state := .busy })) B1 e1 st1.hp := g2.hp.free (by simp) hother1
    have hrel2 : Rel (w1.putObj (e.β L).block (.loop { r with state := .busy })) B1 e1 n st1 a1 := ⟨hh2, fun i => (g2.slots i).mono (fun b hb => hother1 b (.inl hb)) (fun _ h => h) (fun _ _ h => h), g2.size⟩
    have hrow2 : (w1.putObj (e.β L).block (.loop { r with state := .busy })).heap[(e.β L).block]? = some (.loop { r with state := .busy }) := World.putObj_heap_same s1
    have hdef2 : DefOK w.heap.size (w1.putObj (e.β L).block (.loop { r with state := .busy })) B1 e1 st1.hp a1.defers := by
      obtain ⟨Ds, d1, d2, d3⟩ := g4
      refine ⟨Ds, d1, d2, fun D hD => ?_⟩
      obtain ⟨y1, y2, y3, y4, y5⟩ := d3 D hD
      have hne : D ≠ (e.β L).block := fun hE => by
        rw [hE, s2, hrow] at y4; simp at y4
      exact ⟨y1, y2, by simpa using y3, by rw [World.putObj_heap_other hne]; exact y4, y5⟩
    have main2 := awp_sound (w0 := w1.putObj (e.β L).block (.loop { r with state := .busy })) (B0 := B1) (e0 := e1) (h0 := st1.hp) (n := n) hm fid hn T (some (e.β L).block) w.heap.size (by simpa using g3.size) (fun l0 hl0 => by
      simp only [Option.some.injEq] at hl0; subst hl0; exact ⟨_, hrow2, by simpa using s1, s3⟩) bd _ _ _ _ B1 e1 m hok2 hrel2 (Ext.refl _ _ _ _) hdef2 hbd
    refine wpIn_mono main2 ?_
    rintro ex2 a3 w3 ⟨x2, hx2, st3, B3, e3, k1, k2, k3, k4⟩
    obtain ⟨t1, t2, t3⟩ := unowned_ext k3 (by simpa using s1) s3
    have nb3 : ¬ B3 (e.β L).block := notB_ext k3 (by simpa using s1) s3 nb1
    have hrow3 : w3.heap[(e.β L).block]? = some (.loop { r with state := .busy }) := t2.trans hrow2
    have hk3 : L.k < st3.hp.cnt L.f L.s := Nat.lt_of_lt_of_le (Nat.lt_of_lt_of_le hLk (g3.cnt _ _)) (k3.cnt _ _)
    have hk1 : L.k < st1.hp.cnt L.f L.s := Nat.lt_of_lt_of_le hLk (g3.cnt _ _)
    have hβ3 : e3.β L = e.β L := by rw [(k3.env L hk1).1]; exact (g3.env L hLk).1
    -- the record is taken up again
    have finish : ∀ (jump : Option Code) (s' : LpS), (match s' with | .ready => jump = none | .done x => jump = some (exC x)) → ∀ b, b = jump.isNone → K (.bool b) (st3.hp.back L (.lp slots n ps asg bd s')) →
        ∃ v w', (Instr.endRound (e.β L).block jump).run P w3 = .ok v w' ∧ (fun en w' => ∃ v r h' B' e', en = .returned v ∧ HRel w' B' e' h' ∧ Ext w B e h w' B' e' h' ∧ R w' B' (e'.E h') r v ∧ K r h') (Ending.returned v) w' := by
      intro jump s' hj b hb hK
      obtain ⟨o4, ho4⟩ : ∃ o : Loop, o = { r with state := if jump.isNone then .ready else .done, pending := jump } := ⟨_, rfl⟩
      have hc4 : ∀ M, (st3.hp.back L (.lp slots n ps asg bd s')).con M = if M = L then .lp slots n ps asg bd s' else st3.hp.con M := fun M => back_con hk3 M
      have hcnt4 : (st3.hp.back L (.lp slots n ps asg bd s')).cnt = st3.hp.cnt := back_cnt
      have has4 : ∀ M, M ≠ L → e3.has (st3.hp.back L (.lp slots n ps asg bd s')) M → e3.has st3.hp M := fun M hne hM => by
        refine ⟨by have := hM.1; rwa [hcnt4] at this, ?_⟩
        have := hM.2
        rwa [hc4, if_neg hne] at this
      have live4 : ∀ M, ((st3.hp.back L (.lp slots n ps asg bd s')).con M).live → M ≠ L ∧ (st3.hp.con M).live := fun M hl => by
        rw [hc4] at hl
        by_cases hE : M = L
        · rw [if_pos hE] at hl; exact hl.elim
        · rw [if_neg hE] at hl; exact ⟨hE, hl⟩
      have hE4 : ∀ a v, e3.E st3.hp a v → e3.E (st3.hp.back L (.lp slots n ps asg bd s')) a v := fun a v hE => by
        cases a with
        | pt M sz i j => exact ⟨by rw [hcnt4]; exact hE.1, hE.2.1, fun hl => hE.2.2 (live4 M hl).2⟩
        | os M => exact ⟨by rw [hcnt4]; exact hE.1, hE.2.1, fun hl => hE.2.2 (live4 M hl).2⟩
        | mr M => exact ⟨by rw [hcnt4]; exact hE.1, hE.2.1, fun hl => hE.2.2 (live4 M hl).2⟩
        | yl M => exact ⟨by rw [hcnt4]; exact hE.1, hE.2⟩
        | _ => exact hE.elim
      have hother3 : ∀ b, (B3 b ∨ ∃ M, e3.has st3.hp M ∧ (e3.β M).block = b) → (w3.putObj (e.β L).block (.loop o4)).heap[b]? = w3.heap[b]? := by
        rintro b (hb | ⟨M, hM, rfl⟩)
        · exact World.putObj_heap_other (fun hE => nb3 (hE ▸ hb))
        · exact World.putObj_heap_other (t3 M hM)
      have xx : Ext w B e h (w3.putObj (e.β L).block (.loop o4)) B3 e3 (st3.hp.back L (.lp slots n ps asg bd s')) := by
        have z1 := g3.size
        have z2 := k3.size
        simp only [World.putObj_size] at z2
        refine ⟨by simp; omega, k3.os.trans g3.os, k3.tape.trans g3.tape, k3.output.trans g3.output, fun b hb => k3.bsub b (g3.bsub b hb), fun b hb => ?_, fun b hb ho => ?_, fun M hM => ?_, fun f s => ?_, fun M hM => ?_, fun M hM hl => ?_⟩
        · rcases k3.bnew b hb with q | ⟨M, q1, q2⟩ | q
          · rcases g3.bnew b q with q | ⟨M, q1, q2⟩ | q
            · exact .inl q
            · exact .inr (.inl ⟨M, (has_drop q1).2, q2⟩)
            · exact .inr (.inr q)
          · rcases g3.onew M q1 with ⟨M', q3, q4⟩ | q3
            · exact .inr (.inl ⟨M', (has_drop q3).2, q4.trans q2⟩)
            · exact .inr (.inr (by omega))
          · exact .inr (.inr (by simp at q; omega))
        · have hbl : b ≠ (e.β L).block := fun hE => ho L hL hE.symm
          have u1 : ∀ M, e.has (h.set L .none) M → (e.β M).block ≠ b := fun M hM => ho M (has_drop hM).2
          obtain ⟨v1, v2, v3⟩ := unowned_ext g3 hb u1
          obtain ⟨_, v5, _⟩ := unowned_ext k3 (by simpa using v1) v3
          rw [World.putObj_heap_other hbl, v5, World.putObj_heap_other hbl, v2]
        · by_cases hE : M = L
          · exact .inl ⟨L, hL, by rw [hE, hβ3]⟩
          · rcases k3.onew M (has4 M hE hM) with ⟨M', q1, q2⟩ | q1
            · rcases g3.onew M' q1 with ⟨M2, q3, q4⟩ | q3
              · exact .inl ⟨M2, (has_drop q3).2, q4.trans q2⟩
              · exact .inr (by omega)
            · exact .inr (by simp at q1; omega)
        · rw [hcnt4]; exact Nat.le_trans (g3.cnt f s) (k3.cnt f s)
        · obtain ⟨q1, q2⟩ := g3.env M hM
          obtain ⟨q3, q4⟩ := k3.env M (Nat.lt_of_lt_of_le hM (g3.cnt _ _))
          exact ⟨q3.trans q1, q4.trans q2⟩
        · have h1 := live4 M hl
          have h2 := k3.live M (Nat.lt_of_lt_of_le hM (g3.cnt _ _)) h1.2
          have h3 := g3.live M hM h2
          rcases dropc (h := h) (L := L) M with h4 | h4
          · rw [h4] at h3; exact h3.elim
          · rwa [h4] at h3
      have hh4 : HRel (w3.putObj (e.β L).block (.loop o4)) B3 e3 (st3.hp.back L (.lp slots n ps asg bd s')) := by
        refine ⟨fun M hM => ?_, fun M M' hM hM' hb => ?_, fun b hb => by simpa using k2.hp.bnd b hb⟩
        · rw [hc4]
          by_cases hE : M = L
          · subst hE
            rw [if_pos rfl]
            refine ⟨by rw [hβ3]; exact nb3, o4, by rw [hβ3]; exact World.putObj_heap_same t1, by rw [ho4]; exact hpar, by rw [ho4]; exact hasg, by rw [ho4]; exact hbody, by rw [ho4]; exact hsz, fun i => ?_, ?_⟩
            · have : o4.tmps = r.tmps := by rw [ho4]
              rw [this]; exact (hslots i).ext hh xx
            · rw [ho4]
              cases s' with
              | ready => simp only at hj; subst hj; exact ⟨rfl, rfl⟩
              | done x => simp only at hj; subst hj; exact ⟨rfl, rfl⟩
          · rw [if_neg hE]
            have hk' : M.k < st3.hp.cnt M.f M.s := by rw [hcnt4] at hM; exact hM
            exact ConRel.move (fun a v hR => hR.mono (fun b hb => hother3 b (.inl hb)) (fun _ h => h) hE4) rfl rfl (fun ho => hother3 _ (.inr ⟨M, own_has hk' ho, rfl⟩)) (fun _ h => h) (k2.hp.con M hk')
        · by_cases hE : M = L
          · by_cases hE' : M' = L
            · rw [hE, hE']
            · exfalso
              rw [hE, hβ3] at hb
              exact t3 M' (has4 M' hE' hM') hb.symm
          · by_cases hE' : M' = L
            · exfalso
              rw [hE', hβ3] at hb
              exact t3 M (has4 M hE hM) hb
            · exact k2.hp.inj M M' (has4 M hE hM) (has4 M' hE' hM') hb
      refine ⟨_, _, run_endRound jump hrow3, _, .bool b, st3.hp.back L (.lp slots n ps asg bd s'), B3, e3, rfl, ?_, ?_, by rw [hb]; exact .bool _, hK⟩
      · rw [ho4] at hh4; exact hh4
      · rw [ho4] at xx; exact xx
    cases ex2 with
    | normal =>
      simp only [toEx, Option.some.injEq] at hx2; subst hx2
      exact finish none .ready rfl true rfl (k1 fun f t => Nat.le_trans (g3.cnt f t) (k3.cnt f t))
    | exit id =>
      simp only [toEx, Option.some.injEq] at hx2; subst hx2
      exact finish (some (.exit id)) (.done (.exit id)) rfl false rfl (k1 fun f t => Nat.le_trans (g3.cnt f t) (k3.cnt f t))
    | ret =>
      simp only [toEx, Option.some.injEq] at hx2; subst hx2
      exact finish (some .ret) (.done .ret) rfl false rfl (k1 fun f t => Nat.le_trans (g3.cnt f t) (k3.cnt f t))
    | goto l => simp [toEx] at hx2
    | panic ch => simp [toEx] at hx2
    | outgrown => simp [toEx] at hx2
  cases ex with
  | normal =>
    simp only [toEx, Option.some.injEq] at hx'; subst hx'
    exact key g1
  | exit id => simp only [toEx, Option.some.injEq] at hx'; subst hx'; exact g1.elim
  | ret => simp only [toEx, Option.some.injEq] at hx'; subst hx'; exact g1.elim
  | goto l => simp [toEx] at hx'
  | panic ch => simp [toEx] at hx'
  | outgrown => simp [toEx] at hx'
theorem YieldK.of_awp (hm : P.follows .mixedOrders = true) (fid : Nat) (T : Nat → List Tg) {L : Lab} {args : List AV} {h : Hp} {K : AV → Hp → Prop} {slots : Nat → AV} {n : Nat} {ps : List Nat} {asg bd : Code}
    (hcon : h.con L = .lp slots n ps asg bd .ready) (hn : ntm P fid = n) (hps : ∀ p ∈ ps, p < n) (hok1 : okCode n T asg = true) (hok2 : okCode n T bd = true) (hlen : args.length = ps.length)
    (hk : awp P fid T asg (asgQ (awp P fid T bd (roundQ L slots n ps asg bd K))) (putS ps args ⟨slots, h.set L .none⟩)) : YieldK P L args h K := by
  refine YieldK.of_awpC hm fid T hcon hn hps hok1 hok2 hlen (awp_mono hk fun x s hs => ?_)
  cases x with
  | normal => exact awp_mono hs fun x s hs _ => hs
  | exit id => exact hs.elim
  | ret => exact hs.elim
end
end Go.T
/- The rules by which simp runs ranges over functions, nil tests, min and max. -/
namespace Go.T
open Go

def YieldX (P : Program) (L : Lab) (args : List AV) (h : Hp) (K : AV → Hp → Prop) (_ : Tok K) : Prop := YieldK P L args h K
theorem YieldX.of {P : Program} {L : Lab} {args : List AV} {h : Hp} {K : AV → Hp → Prop} {u : Tok K} (hc : YieldK P L args h K) : YieldX P L args h K u := hc
@[go_sem ↓, go_sem] theorem callV_yl {P : Program} {L : Lab} {args : List AV} {h : Hp} {K : AV → Hp → Prop} : callV P (.yl L) args h K = YieldX P L args h K ⟨⟩ := propext Iff.rfl

section
variable {P : Program} {fid : Nat} {T : Nat → List Tg} {Q : Ex → St → Prop} {st : St}
@[go_sem ↓, go_sem] theorem awp_range {g : Operand} {ps : List Nat} {asg body : Code} : awp P fid T (.rangeFunc g (List.toArray ps) asg body) Q st = rangeK P fid (st.ev g) ps asg body Q st := by simp [awp]
@[go_sem ↓, go_sem] theorem rangeK_fn {gf : Nat} {caps : List AV} {ps : List Nat} {asg body : Code} : rangeK P fid (.fn (.func gf) caps) ps asg body Q st = (hasBody P gf = true ∧ CallX P gf (.yl ⟨fid, lpSlot, st.hp.cnt fid lpSlot⟩ :: caps) (st.hp.alloc fid lpSlot (.lp st.slots (ntm P fid) ps asg body .ready))
      (fun _ h => endLpC (h.con ⟨fid, lpSlot, st.hp.cnt fid lpSlot⟩) (fun x => Q x ⟨st.slots, h.set ⟨fid, lpSlot, st.hp.cnt fid lpSlot⟩ .none⟩)) ⟨⟩) := propext Iff.rfl
@[congr] theorem rangeK_congr {g g' : AV} {ps : List Nat} {asg body : Code} (e : g = g') : rangeK P fid g ps asg body Q st = rangeK P fid g' ps asg body Q st := by subst e; rfl
end
section
variable {K : Ex → Prop} {sl : Nat → AV} {n : Nat} {ps : List Nat} {asg body : Code}
@[go_sem ↓, go_sem] theorem endLpC_r : endLpC (.lp sl n ps asg body .ready) K = K .normal := propext Iff.rfl
@[go_sem ↓, go_sem] theorem endLpC_e {id} : endLpC (.lp sl n ps asg body (.done (.exit id))) K = K (.exit id) := propext Iff.rfl
@[go_sem ↓, go_sem] theorem endLpC_t : endLpC (.lp sl n ps asg body (.done .ret)) K = K .ret := propext Iff.rfl
@[congr] theorem endLpC_congr {c c' : Con} {K : Ex → Prop} (e : c = c') : endLpC c K = endLpC c' K := by subst e; rfl
end
@[go_sem ↓, go_sem] theorem asgQ_n {N : St → Prop} {s : St} : asgQ N .normal s = N s := propext Iff.rfl
section
variable {L : Lab} {slots : Nat → AV} {n : Nat} {ps : List Nat} {asg body : Code} {K : AV → Hp → Prop} {s : St}
@[go_sem ↓, go_sem] theorem roundQ_n : roundQ L slots n ps asg body K .normal s = K (.bool true) (s.hp.back L (.lp slots n ps asg body .ready)) := propext Iff.rfl
@[go_sem ↓, go_sem] theorem roundQ_e {id} : roundQ L slots n ps asg body K (.exit id) s = K (.bool false) (s.hp.back L (.lp slots n ps asg body (.done (.exit id)))) := propext Iff.rfl
@[go_sem ↓, go_sem] theorem roundQ_r : roundQ L slots n ps asg body K .ret s = K (.bool false) (s.hp.back L (.lp slots n ps asg body (.done .ret))) := propext Iff.rfl
end
@[go_sem] theorem putS_cons {p ps a aas st} : putS (p :: ps) (a :: aas) st = putS ps aas (st.put (some p) a) := by simp [putS]
@[go_sem] theorem putS_nil {aas st} : putS [] aas st = st := by simp [putS]
@[go_sem] theorem mk_slots {s : Nat → AV} {h : Hp} {i : Nat} : (St.mk s h).slots i = s i := by simp
@[go_sem] theorem mk_hp {s : Nat → AV} {h : Hp} : (St.mk s h).hp = h := by simp
@[go_sem] theorem cells_yl {L} : (AV.yl L).cells = [.yl L] := by simp [AV.cells]
@[go_sem] theorem isCell_yl {L} : (AV.yl L).isCell = true := by simp [AV.isCell]
@[go_sem] theorem cells_fn {f cs} : (AV.fn f cs).cells = [.fn f cs] := by simp [AV.cells]
@[go_sem] theorem isCell_fn {f cs} : (AV.fn f cs).isCell = true := by simp [AV.isCell]
@[go_sem] theorem cells_nilf : AV.nilf.cells = [.nilf] := by simp [AV.cells]
@[go_sem] theorem isCell_nilf : AV.nilf.isCell = true := by simp [AV.isCell]
@[go_sem] theorem cells_nilp : AV.nilp.cells = [.nilp] := by simp [AV.cells]
@[go_sem] theorem isCell_nilp : AV.nilp.isCell = true := by simp [AV.isCell]
@[go_sem] theorem ofVal_nilf : AV.ofVal .nilFunc = .nilf := by simp [AV.ofVal]

/- Tests for nil. -/
def nilK (k : TK) (x : AV) (K : Bool → Prop) : Prop := match k, x with
  | .pointer, .ip _ => K false
  | .pointer, .pt _ _ _ _ => K false
  | .pointer, .nilp => K true
  | .func, .fn _ _ => K false
  | .func, .nilf => K true
  | _, _ => False
def nilL (k : TK) (yn : Bool) (xs : List AV) (K : Bool → Prop) : Prop := match k with
  | .slice _ => yn = true ∧ (xs = [] → K true) ∧ K false
  | _ => False
section
variable {P : Program} {t : TypeId} {y : Operand} {K : AV → Prop}
@[go_sem ↓, go_sem] theorem nilK_fn {f cs} {K : Bool → Prop} : nilK .func (.fn f cs) K = K false := propext Iff.rfl
@[go_sem ↓, go_sem] theorem nilK_nf {K : Bool → Prop} : nilK .func .nilf K = K true := propext Iff.rfl
@[go_sem ↓, go_sem] theorem nilK_ip {cs} {K : Bool → Prop} : nilK .pointer (.ip cs) K = K false := propext Iff.rfl
@[go_sem ↓, go_sem] theorem nilK_pt {L a b c} {K : Bool → Prop} : nilK .pointer (.pt L a b c) K = K false := propext Iff.rfl
@[go_sem ↓, go_sem] theorem nilK_np {K : Bool → Prop} : nilK .pointer .nilp K = K true := propext Iff.rfl
@[go_sem ↓, go_sem] theorem nilL_s {el yn xs} {K : Bool → Prop} : nilL (.slice el) yn xs K = (yn = true ∧ (xs = [] → K true) ∧ K false) := propext Iff.rfl
@[congr] theorem nilK_congr {k k' : TK} {x : AV} {K : Bool → Prop} (e : k = k') : nilK k x K = nilK k' x K := by subst e; rfl
@[congr] theorem nilL_congr {k k' : TK} {yn yn' : Bool} {xs : List AV} {K : Bool → Prop} (e : k = k') (e1 : yn = yn') : nilL k yn xs K = nilL k' yn' xs K := by subst e; subst e1; rfl
@[go_sem] theorem nilSlice_s {a b} : nilSlice (.const (.slice .none a b)) = true := by simp [nilSlice]
@[go_sem ↓, go_sem] theorem bin_fn_eq {f cs} : binK (EqI.mk' P t y) .eql (.fn f cs) .nilf K = nilK (tk P t) (.fn f cs) (fun b => K (.bool b)) := by
  simp only [binK, EqI.mk']; unfold eqK nilK; cases tk P t <;> rfl
@[go_sem ↓, go_sem] theorem bin_fn_ne {f cs} : binK (EqI.mk' P t y) .neq (.fn f cs) .nilf K = nilK (tk P t) (.fn f cs) (fun b => K (.bool (!b))) := by
  simp only [binK, EqI.mk']; unfold eqK nilK; cases tk P t <;> rfl
@[go_sem ↓, go_sem] theorem bin_nf_eq : binK (EqI.mk' P t y) .eql .nilf .nilf K = nilK (tk P t) .nilf (fun b => K (.bool b)) := by
  simp only [binK, EqI.mk']; unfold eqK nilK; cases tk P t <;> rfl
@[go_sem ↓, go_sem] theorem bin_ip_eq {cs} : binK (EqI.mk' P t y) .eql (.ip cs) .nilp K = nilK (tk P t) (.ip cs) (fun b => K (.bool b)) := by
  simp only [binK, EqI.mk']; unfold eqK nilK; cases tk P t <;> rfl
@[go_sem ↓, go_sem] theorem bin_ip_ne {cs} : binK (EqI.mk' P t y) .neq (.ip cs) .nilp K = nilK (tk P t) (.ip cs) (fun b => K (.bool (!b))) := by
  simp only [binK, EqI.mk']; unfold eqK nilK; cases tk P t <;> rfl
@[go_sem ↓, go_sem] theorem bin_pt_eq {L a b c} : binK (EqI.mk' P t y) .eql (.pt L a b c) .nilp K = nilK (tk P t) (.pt L a b c) (fun b => K (.bool b)) := by
  simp only [binK, EqI.mk']; unfold eqK nilK; cases tk P t <;> rfl
@[go_sem ↓, go_sem] theorem bin_pt_ne {L a b c} : binK (EqI.mk' P t y) .neq (.pt L a b c) .nilp K = nilK (tk P t) (.pt L a b c) (fun b => K (.bool (!b))) := by
  simp only [binK, EqI.mk']; unfold eqK nilK; cases tk P t <;> rfl
@[go_sem ↓, go_sem] theorem bin_np_eq : binK (EqI.mk' P t y) .eql .nilp .nilp K = nilK (tk P t) .nilp (fun b => K (.bool b)) := by
  simp only [binK, EqI.mk']; unfold eqK nilK; cases tk P t <;> rfl
@[go_sem ↓, go_sem] theorem bin_np_ne : binK (EqI.mk' P t y) .neq .nilp .nilp K = nilK (tk P t) .nilp (fun b => K (.bool (!b))) := by
  simp only [binK, EqI.mk']; unfold eqK nilK; cases tk P t <;> rfl
@[go_sem ↓, go_sem] theorem bin_l_eq {a b xs c d ys} : binK (EqI.mk' P t y) .eql (.l a b xs) (.l c d ys) K = nilL (tk P t) (nilSlice y) xs (fun b => K (.bool b)) := by
  simp only [binK, EqI.mk']; unfold eqK nilL; cases tk P t <;> rfl
@[go_sem ↓, go_sem] theorem bin_l_ne {a b xs c d ys} : binK (EqI.mk' P t y) .neq (.l a b xs) (.l c d ys) K = nilL (tk P t) (nilSlice y) xs (fun b => K (.bool (!b))) := by
  simp only [binK, EqI.mk']; unfold eqK nilL; cases tk P t <;> rfl
end
section
variable {P : Program} {fid : Nat} {d : Option Nat} {ty : TypeId} {ps : String} {af : Array Edge} {g : Option (Nat × Bool)} {st : St} {K : St → Prop}
@[go_sem ↓, go_sem] theorem opK_min {args ats} : opK P fid ⟨d, .call ⟨.builtin .min, args, ats⟩, ty, ps, af, g⟩ st K = mmK false st.hp (fun r h => K ((st.withHp h).put d r)) (args.toList.map st.ev) := propext Iff.rfl
@[go_sem ↓, go_sem] theorem opK_max {args ats} : opK P fid ⟨d, .call ⟨.builtin .max, args, ats⟩, ty, ps, af, g⟩ st K = mmK true st.hp (fun r h => K ((st.withHp h).put d r)) (args.toList.map st.ev) := propext Iff.rfl
end
@[go_sem ↓, go_sem] theorem mmK_min {h : Hp} {K : AV → Hp → Prop} {k k' a b} : mmK false h K [.int k a, .int k' b] = K (.int k (if b < a then b else a)) h := by simp [mmK]
@[go_sem ↓, go_sem] theorem mmK_max {h : Hp} {K : AV → Hp → Prop} {k k' a b} : mmK true h K [.int k a, .int k' b] = K (.int k (if b > a then b else a)) h := by simp [mmK]
@[congr] theorem mmK_congr {mx : Bool} {h h' : Hp} {K : AV → Hp → Prop} {args args' : List AV} (e : h = h') (e1 : args = args') : mmK mx h K args = mmK mx h' K args' := by subst e; subst e1; rfl
/- The record under a name. -/
def lpWith (c : Con) (s : LpS) : Con := match c with
  | .lp a b d e g _ => .lp a b d e g s
  | c => c
@[go_sem] theorem lpWith_lp {a b d e g s' s} : lpWith (.lp a b d e g s') s = .lp a b d e g s := by simp [lpWith]
def roundC (L : Lab) (c : Con) (K : AV → Hp → Prop) : Ex → St → Prop
  | .normal, s => K (.bool true) (s.hp.back L c)
  | .exit id, s => K (.bool false) (s.hp.back L (lpWith c (.done (.exit id))))
  | .ret, s => K (.bool false) (s.hp.back L (lpWith c (.done .ret)))
section
variable {L : Lab} {c : Con} {K : AV → Hp → Prop} {s : St}
@[go_sem ↓, go_sem] theorem roundC_n : roundC L c K .normal s = K (.bool true) (s.hp.back L c) := propext Iff.rfl
@[go_sem ↓, go_sem] theorem roundC_e {id} : roundC L c K (.exit id) s = K (.bool false) (s.hp.back L (lpWith c (.done (.exit id)))) := propext Iff.rfl
@[go_sem ↓, go_sem] theorem roundC_r : roundC L c K .ret s = K (.bool false) (s.hp.back L (lpWith c (.done .ret))) := propext Iff.rfl
end
theorem YieldX.round {P : Program} (hm : P.follows .mixedOrders = true) (fid : Nat) (T : Nat → List Tg) {L : Lab} {args : List AV} {h : Hp} {K : AV → Hp → Prop} {c : Con} {slots : Nat → AV} {n : Nat} {ps : List Nat} {asg bd : Code}
    (hcon : h.con L = c) (hlp : c = .lp slots n ps asg bd .ready) (hn : ntm P fid = n) (hps : ∀ p ∈ ps, p < n) (hok1 : okCode n T asg = true) (hok2 : okCode n T bd = true) (hlen : args.length = ps.length)
    (hk : awp P fid T asg (asgQ (awp P fid T bd (roundC L c K))) (putS ps args ⟨slots, h.set L .none⟩)) : YieldK P L args h K := by
  subst hlp
  refine YieldK.of_awp hm fid T hcon hn hps hok1 hok2 hlen (awp_mono hk fun x s hs => ?_)
  cases x with
  | normal =>
    refine awp_mono hs fun x s hs => ?_
    cases x with
    | normal => exact hs
    | exit id => exact hs
    | ret => exact hs
  | exit id => exact hs.elim
  | ret => exact hs.elim
theorem Keeps.back {h H : Hp} (k : Keeps h H) {L : Lab} (hL : h.con L = .none) (c : Con) : Keeps h (H.back L c) := by
  intro M
  by_cases hE : M = L
  · left; rw [hE]; exact hL
  · rcases k M with h1 | h1
    · exact .inl h1
    · right
      unfold Hp.back
      split
      · rw [← h1]; exact if_neg hE
      · exact h1
theorem range_intro {P : Program} {gf f s : Nat} {args : List AV} {H : Hp} {c : Con} {K : AV → Hp → Prop} {u : Tok K} (hk : ∀ c', c' = c → CallX P gf args (H.alloc f s c') K u) : CallX P gf args (H.alloc f s c) K u := hk c rfl
theorem lt_of_con {h : Hp} {L : Lab} {c : Con} (hc : h.con L = c) (hn : c ≠ .none) : L.k < h.cnt L.f L.s := by
  rcases Nat.lt_or_ge L.k (h.cnt L.f L.s) with h1 | h1
  · exact h1
  · exact absurd (hc.symm.trans (h.ok L h1)) hn
theorem lpSlot_ne {n : Nat} (h : n < 1000000) : (lpSlot = n) = False := by
  unfold lpSlot; simp; omega
theorem ne_lpSlot {n : Nat} (h : n < 1000000) : (n = lpSlot) = False := by
  unfold lpSlot; simp; omega
end Go.T
/- Plain laws of trees. -/
namespace Go.Gh
theorem find_range_at {p : Nat → Bool} {n i : Nat} (hi : i < n) (hp : p i = true) (hn : ∀ u, u < i → p u = false) : (List.range n).find? p = some i := by
  rw [List.find?_range_eq_some]
  exact ⟨hp, by simpa using hi, fun j hj => by simp [hn j hj]⟩
theorem find_range_none {p : Nat → Bool} {n : Nat} (hn : ∀ u, u < n → p u = false) : (List.range n).find? p = none := by
  rw [List.find?_range_eq_none]
  intro i hi; simp [hn i hi]
def faultB (ps : List Int) (v : Nat) : Bool :=
  decide (ps.getD v 0 < -1) || decide (ps.getD v 0 ≥ ps.length) || ps.getD v 0 == (v : Int) || (ps.getD v 0 == -1 && (ps.take v).contains (-1))
def climb (ps : List Int) : Nat → Int → Bool
  | 0, _ => false
  | k + 1, v => if ps.getD v.toNat 0 = -1 then true else climb ps k (ps.getD v.toNat 0)
def treeR (ps : List Int) : Int × Int :=
  if ps.length = 0 then (0, 1) else if 32 < ps.length then (0, 3) else
  match (List.range ps.length).find? (faultB ps) with
  | some v => (v, 10)
  | none => match (List.range ps.length).find? (fun v : Nat => !climb ps ps.length v) with
    | some v => (v, 10)
    | none => (0, 0)
theorem in_tree {ps : List Int} {v : Nat} (hv : v < ps.length) (h : faultB ps v = false) : -1 ≤ ps[v] ∧ ps[v] < ps.length ∧ ps[v] ≠ v := by
  have e : ps.getD v 0 = ps[v] := by rw [List.getD_eq_getElem?_getD, List.getElem?_eq_getElem hv]; rfl
  simp only [faultB, e, Bool.or_eq_false_iff, decide_eq_false_iff_not, beq_eq_false_iff_ne] at h
  exact ⟨by omega, by omega, h.1.2⟩
/-- A node's neighbours out of the first i rows, in the order in which they are found. -/
def nearL (ps : List Int) (v : Nat) : Nat → List Int
  | 0 => []
  | i + 1 => if 0 ≤ ps.getD i 0 then (if i = v then nearL ps v i ++ [ps.getD i 0] else if ps.getD i 0 = v then nearL ps v i ++ [(i : Int)] else nearL ps v i) else nearL ps v i
def sortI (l : List Int) : List Int := l.mergeSort (fun x y => decide (x ≤ y))
def nears (ps : List Int) : List (List Int) := (List.range ps.length).map fun v => sortI (nearL ps v ps.length)
theorem nearL_len (ps : List Int) (v : Nat) : ∀ i, (nearL ps v i).length ≤ i := by
  intro i
  induction i with
  | zero => simp [nearL]
  | succ i ih => unfold nearL; split <;> (try split) <;> (try split) <;> (try simp) <;> omega
end Go.Gh
/- Freezing lists of own slices. -/
namespace Go.T
open Go
theorem Le.ip {cs ds : List AV} (hl : ds.length = cs.length) (hc : ∀ j, j < cs.length → Le (cs.getD j .undef) (ds.getD j .undef)) : Le (.ip cs) (.ip ds) := by
  intro w B e h v hR
  cases hR with
  | ip _ b off vs h1 h2 h3 => exact .ip ds b off vs h1 (fun j hj => h2 j (hl ▸ hj)) (fun j hj => hc j (hl ▸ hj) _ _ _ _ _ (h3 j (hl ▸ hj)))
  | ref _ _ hr => exact hr.elim
theorem Le.lst {ex : Bool} {sz : Nat} {xs ys : List AV} (hl : ys.length = xs.length) (hc : ∀ i (hi : i < xs.length), (ys[i]).cells.length = (xs[i]).cells.length ∧ ∀ j, Le ((xs[i]).cells.getD j .undef) ((ys[i]).cells.getD j .undef)) : Le (.l ex sz xs) (.l ex sz ys) := by
  intro w B e h v hR
  cases hR with
  | l0 _ _ a c hx =>
    have : ys = [] := List.length_eq_zero_iff.1 (by simpa using hl)
    subst this; exact .l0 _ _ _ _ hx
  | l _ _ _ b off cap vs h1 h2 h3 h4 h5 h6 h7 h8 =>
    rw [← hl]
    exact .l ex sz ys b off cap vs (fun h0 => h1 (List.length_eq_zero_iff.1 (by rw [← hl, h0]; rfl))) (fun hx => by rw [hl]; exact h2 hx) (by rw [hl]; exact h3) h4 (fun i hi => by rw [(hc i (hl ▸ hi)).1]; exact h5 i (hl ▸ hi)) (fun i j hi hj => h6 i j (hl ▸ hi) hj)
      (fun i j hi hj => (hc i (hl ▸ hi)).2 j _ _ _ _ _ (h7 i j (hl ▸ hi) hj)) (fun i j hi hj => h8 i j (hl ▸ hi) hj)
  | ref _ _ hr => exact hr.elim
theorem frzs_id {ds : List AV} (hd : ∀ d ∈ ds, ∀ L c, d.frz L c = d) (L : Lab) (c : Con) : AV.frzs L c ds = ds := by
  rw [frzs_map]; conv => rhs; rw [← List.map_id ds]
  exact List.map_congr_left fun d hdm => hd d hdm L c
theorem Frz.list {mk : List AV → AV} (hmk : ∀ L c xs, (mk xs).frz L c = mk (AV.frzs L c xs)) (h0 : Hp) : ∀ (n : Nat) (rem : List (AV × AV)) (ds : List AV) (h : Hp) (fin : Hp → AV → Prop), rem.length = n →
    (∀ d ∈ ds, ∀ L c, d.frz L c = d) → Keeps h0 h →
    (∀ p ∈ rem, (∀ L c, p.2.frz L c = p.2) ∧ (p.1 = p.2 ∨ ∃ L sz xs, p.1 = .os L ∧ h0.con L = .none ∧ h.con L = .arr sz xs ∧ p.2 = .l false sz xs)) →
    (∀ h', Keeps h0 h' → ∃ r, Le (mk (ds ++ rem.map Prod.snd)) r ∧ fin h' r) →
    ∃ h' r, Frz h (mk (ds ++ rem.map Prod.fst)) h' r ∧ Keeps h0 h' ∧ fin h' r := by
  intro n
  induction n with
  | zero =>
    intro rem ds h fin hn hd hk hr hf
    have : rem = [] := List.length_eq_zero_iff.1 hn
    subst this
    obtain ⟨r, h1, h2⟩ := hf h hk
    exact ⟨h, r, .done _ _ _ h1, hk, h2⟩
  | succ n ih =>
    intro rem ds h fin hn hd hk hr hf
    cases rem with
    | nil => simp at hn
    | cons p rest =>
      have hn' : rest.length = n := by simpa using hn
      obtain ⟨hp2, hp1⟩ := hr p (by simp)
      rcases hp1 with hE | ⟨L, sz, xs, hE, hL0, hL, hv⟩
      · have := ih rest (ds ++ [p.2]) h fin hn' (fun d hdm => by
          rcases List.mem_append.1 hdm with hdm | hdm
          · exact hd d hdm
          · simp at hdm; subst hdm; exact hp2) hk (fun q hq => hr q (by simp [hq])) (by simpa using hf)
        simpa [hE] using this
      · have hk' : Keeps h0 (h.set L .none) := hk.set hL0 .none
        have := ih (rest.map fun q => (q.1.frz L (h.con L), q.2)) (ds ++ [p.2]) (h.set L .none) fin (by simpa using hn') (fun d hdm => by
          rcases List.mem_append.1 hdm with hdm | hdm
          · exact hd d hdm
          · simp at hdm; subst hdm; exact hp2) hk' (fun q hq => by
          obtain ⟨q0, hq0, rfl⟩ := List.mem_map.1 hq
          obtain ⟨g1, g2⟩ := hr q0 (by simp [hq0])
          refine ⟨g1, ?_⟩
          rcases g2 with g2 | ⟨M, sz', xs', k1, k2, k3, k4⟩
          · left; simp only; rw [g2, g1]
          · by_cases hM : M = L
            · subst hM; left; simp only [k1, k4, k3, AV.frz, if_true]
            · right
              refine ⟨M, sz', xs', ?_, k2, ?_, k4⟩
              · simp only [k1, AV.frz, hM, if_false]
              · rw [set_con_ne hM]; exact k3) (by simpa [List.map_map, Function.comp_def] using hf)
        obtain ⟨h', r, f1, f2, f3⟩ := this
        refine ⟨h', r, .step _ L _ _ _ ?_, f2, f3⟩
        have e1 : (mk (ds ++ (p :: rest).map Prod.fst)).frz L (h.con L) = mk (ds ++ [p.2] ++ (rest.map fun q => (q.1.frz L (h.con L), q.2)).map Prod.fst) := by
          rw [hmk, frzs_map, List.map_append, ← frzs_map, frzs_id hd]
          simp only [List.map_cons, hE, AV.frz, if_true, hL, List.map_map, Function.comp_def, hv, List.append_assoc, List.singleton_append]
        rw [e1]; exact f1
end Go.T
/- Plain laws of states: messages, sides, chains. -/
namespace Go.Gh
structure Msg where
  kind : Int
  obj : Int
  node : Int
  num : Int
  where' : Int
structure Cel where
  num : Int
  state : Int
  node : Int
  next : Int
structure Own where
  arrow : Int
  made : Int
  cells : List Cel
structure Sid where
  peer : Int
  base : Int
  out : List Msg
  seen : Int
structure Ask where
  obj : Int
  num : Int
structure Found where
  obj : Int
  num : Int
  where' : Int
structure Nst where
  me : Int
  objs : List Own
  edges : List Sid
  asked : Int
  asks : List Ask
  got : List Found
def withinB (x lo hi : Int) : Bool := decide (lo ≤ x) && decide (x ≤ hi)
def validB (m : Msg) : Bool := withinB m.kind 1 4 && withinB m.obj 0 7 && withinB m.node 0 31 && withinB m.num 1 1099511627776 && (if m.kind = 4 then withinB m.where' 0 31 else decide (m.where' = 0))
def goodE (e : Sid) : Bool := withinB e.peer 0 31 && withinB e.base 0 1099511627776 && withinB e.seen 0 1099511627776 && decide (e.out.length ≤ 1024) && decide (e.base + e.out.length ≤ 1099511627776) && e.out.all validB
theorem any_not {α : Type} (p : α → Bool) (l : List α) : (!l.any fun x => !p x) = l.all p := by
  induction l with
  | nil => rfl
  | cons x r ih => simp only [List.any_cons, List.all_cons, ← ih, Bool.not_or, Bool.not_not]
def bareB (c : Cel) : Bool := c.node == -1 && c.next == 0
def ledB (c : Cel) : Bool := withinB c.node 0 31 && withinB c.next 1 1099511627776
def busyB (c : Cel) : Bool := c.state == 1 || c.state == 2
def openN (cs : List Cel) : Nat := cs.countP busyB
theorem openN_le (cs : List Cel) : openN cs ≤ cs.length := List.countP_le_length
theorem openN_step (cs : List Cel) (i : Nat) (h : i < cs.length) : openN (cs.take (i + 1)) = if busyB cs[i] then openN (cs.take i) + 1 else openN (cs.take i) := by
  rw [List.take_succ_eq_append_getElem h]
  unfold openN
  rw [List.countP_append, List.countP_singleton]
  split <;> rfl
/-- What is asked of the cell at place i. -/
def cellOk (cs : List Cel) (me : Int) (sink : Bool) (i : Nat) (c : Cel) : Bool :=
  withinB c.num 0 1099511627776 && (i == 0 || decide ((cs[i - 1]?.map Cel.num).getD 0 < c.num)) && withinB c.state 1 3 && (i == 0 || c.state == 1) && (c.num != 0 || c.state == 3) &&
  (if sink && i + 1 == cs.length then bareB c else c.state != 3 && ledB c && (c.node != me || (i + 1 != cs.length && (cs[i + 1]?.map Cel.num).getD 0 == c.next)))
def cellAt (cs : List Cel) (me : Int) (sink : Bool) (i : Nat) : Bool := match cs[i]? with
  | some c => cellOk cs me sink i c
  | none => true
def goodC (cs : List Cel) (me : Int) (sink : Bool) : Bool := !(sink && cs.isEmpty) && (List.range cs.length).all (cellAt cs me sink)
theorem idxP_any {α : Type} (p : α → Bool) (l : List α) : decide (idxP p l ≥ 0) = l.any p := by
  rcases idxP_cases p l with ⟨h1, h2⟩ | ⟨i, hi, h1, h2⟩
  · rw [h1]
    symm
    simp only [List.find?_eq_none] at h2
    simp only [ge_iff_le, show ¬ ((0 : Int) ≤ -1) by omega, decide_false, List.any_eq_false]
    exact h2
  · rw [h1]
    have : l.any p = true := List.any_eq_true.2 ⟨l[i], List.getElem_mem hi, List.find?_some h2⟩
    simp [this]
end Go.Gh
