/- Part of a proof: a small logic of programs over plain values, shown sound for the given machine. -/
import Derived.Test.YtocfaflghcgniaaDoorT1
import Derived.MapFrom
import Derived.IntWalk
import Derived.Lib.AppendStr
import Derived.OrdersIn
import Derived.RangeFuncNested
import Derived.RangeFuncRecord
/- Soundness: maps whose keys are structs of ints. -/
namespace Go.T
open Go

/-- A struct of ints on the machine's side: the ints are known. -/
theorem key_vals {w : World} {B : Nat → Prop} {e : Env} {h : Hp} {cs : List AV} {v : Value} (hR : R w B (e.E h) (.agg cs) v) (hi : cs.all AV.isInt = true) :
    ∃ vs : Array Value, v = .agg vs ∧ vs.size = cs.length ∧ (∀ j, j < cs.length → ∃ k n, cs.getD j .undef = .int k n ∧ vs.getD j undef = .int k n) := by
  obtain ⟨vs, rfl, h1, h2⟩ := R_agg hR
  refine ⟨vs, rfl, h1, fun j hj => ?_⟩
  have := List.all_eq_true.1 hi (cs[j]) (List.getElem_mem hj)
  have hg : cs.getD j .undef = cs[j] := by simp [hj]
  have hr := h2 j hj
  rw [hg] at hr ⊢
  cases hc : cs[j] <;> rw [hc] at this hr <;> first | (simp [AV.isInt] at this; done) | skip
  exact ⟨_, _, rfl, R_int hr⟩

theorem forIn_unit {P : Program} {w : World} {α : Type} (g : α → PUnit → Sem (ForInStep PUnit)) : ∀ (l : List α), (∀ x ∈ l, (g x PUnit.unit).run P w = .ok (.yield PUnit.unit) w) →
    (forIn l PUnit.unit g).run P w = .ok PUnit.unit w := by
  intro l
  induction l with
  | nil => intro _; simp
  | cons x l ih =>
    intro h
    rw [List.forIn_cons, Sem.run_bind, h x (by simp), Result.andThen_ok]
    exact ih (fun y hy => h y (by simp [hy]))

theorem keyTy_parts {P : Program} {k : TypeId} (h : keyTy P k = true) : structEq P k = true ∧ 0 < tsz P k ∧ ∃ fs, P.underlying k = some (.struct fs) ∧ ∀ f ∈ fs.toList, tin P f.type = true ∧ 0 < tsz P f.type ∧ f.offset + tsz P f.type ≤ tsz P k ∧ ∃ kk, P.underlying f.type = some (.int kk) := by
  unfold keyTy at h
  simp only [Bool.and_eq_true, decide_eq_true_eq] at h
  obtain ⟨⟨h1, h2⟩, h3⟩ := h
  refine ⟨h1, h2, ?_⟩
  split at h3
  · rename_i fs hu
    refine ⟨fs, hu, fun f hf => ?_⟩
    have := List.all_eq_true.1 h3 f hf
    simp only [Bool.and_eq_true, decide_eq_true_eq] at this
    obtain ⟨⟨⟨g1, g2⟩, g3⟩, g4⟩ := this
    refine ⟨g1, g2, g3, ?_⟩
    split at g4
    · rename_i kk hk; exact ⟨kk, tk_int hk⟩
    · cases g4
  · cases h3

theorem run_checkKey_key {P : Program} {w : World} {k : TypeId} (hk : keyTy P k = true) (em : Bool) (vs : Array Value) (hs : vs.size = tsz P k) : (Instr.checkKey em 10000 k (.agg vs)).run P w = .ok () w := by
  obtain ⟨_, _, fs, hu, hf⟩ := keyTy_parts hk
  unfold Instr.checkKey
  simp only [Sem.run_bind, run_underlying hu, Result.andThen_ok]
  have hrow : vs = ((List.range (tsz P k)).map (fun j => vs.getD j undef)).toArray := by
    apply Array.ext
    · simp [hs]
    · intro i h1 h2; simp [h1]
  rw [← Array.forIn_toList]
  rw [forIn_unit]
  · simp
  intro f hfm
  obtain ⟨g1, g2, g3, kk, g4⟩ := hf f hfm
  split
  · rw [Sem.run_bind]
    rw [hrow, run_part_row w g1 (tsz P k) f.offset _ g3 g2, Result.andThen_ok, Sem.run_bind]
    unfold Instr.checkKey
    simp only [Sem.run_bind, run_underlying g4, Result.andThen_ok]
    simp
  · simp

theorem run_equal_key {P : Program} {w : World} {B : Nat → Prop} {e : Env} {h : Hp} {k : TypeId} (hk : structEq P k = true) (h0 : 0 < tsz P k) {cs ds : List AV} {x y : Value} (hx : R w B (e.E h) (.agg cs) x) (hy : R w B (e.E h) (.agg ds) y)
    (hl : cs.length = tsz P k) {b : Bool} (hc : cellsEq cs ds = some b) : (Op.equal k x y).run P w = .ok b w := by
  unfold structEq at hk
  simp only [Bool.and_eq_true, Bool.not_eq_true'] at hk
  obtain ⟨⟨h4, h5⟩, h6⟩ := hk
  obtain ⟨g1, kk, u, v, g2, g3, g4⟩ := cellsEq_ints cs ds b hc
  have e1 := aggRow hx hl g2
  have e2 := aggRow hy (g1.trans hl) (fun j hj => g3 j (by omega))
  subst e1; subst e2
  have hf := flat_eq 12 k h5 h0 10000 (by omega) w kk u v 0
  rw [h6] at hf
  rw [g4]
  simp only [Nat.zero_add] at hf
  rw [hl]
  exact hf

theorem run_findAsking_key {P : Program} {w : World} {B : Nat → Prop} {e : Env} {h : Hp} {k : TypeId} (hk : structEq P k = true) (h0 : 0 < tsz P k) {cs : List AV} {x : Value} (hx : R w B (e.E h) (.agg cs) x) (hl : cs.length = tsz P k) :
    ∀ (es : List (AV × AV × Nat)) (ents : List MapEntry) (i : Nat) (r : Option Nat), ents.length = es.length → (∀ j, (hj : j < es.length) → R w B (e.E h) (es[j]).1 (ents.getD j default).key) → findM cs es i = some r →
    (Instr.findAsking k x ents i).run P w = .ok (r.map fun q => (q, (ents.getD (q - i) default).val)) w ∧ (∀ q, r = some q → i ≤ q ∧ q - i < es.length ∧ ∃ ds, (es[q - i]?).map (·.1) = some (.agg ds) ∧ cellsEq cs ds = some true) := by
  intro es
  induction es with
  | nil =>
    intro ents i r hlen _ hf
    have : ents = [] := List.length_eq_zero_iff.1 (by simpa using hlen)
    subst this
    simp only [findM, Option.some.injEq] at hf
    subst hf
    exact ⟨by simp [Instr.findAsking], fun q hq => by cases hq⟩
  | cons a es ih =>
    intro ents i r hlen hR hf
    cases ents with
    | nil => simp at hlen
    | cons b ents =>
      simp only [findM] at hf
      have hk0 := hR 0 (by simp)
      simp only [List.getElem_cons_zero, List.getD_cons_zero] at hk0
      cases hA : a.1 with
      | agg ds =>
        rw [hA] at hf hk0
        simp only [keyEq] at hf
        cases hc : cellsEq cs ds with
        | none => rw [hc] at hf; cases hf
        | some t =>
          rw [hc] at hf
          have heq := run_equal_key hk h0 hx hk0 hl hc
          unfold Instr.findAsking
          rw [Sem.run_bind, heq, Result.andThen_ok]
          cases t with
          | true =>
            simp only [Option.some.injEq] at hf
            subst hf
            exact ⟨by simp, fun q hq => by injection hq with hq; subst hq; exact ⟨Nat.le_refl _, by simp, ds, by simp [hA], hc⟩⟩
          | false =>
            have := ih ents (i + 1) r (by simpa using hlen) (fun j hj => by have := hR (j + 1) (by simp; omega); simpa using this) hf
            refine ⟨?_, fun q hq => ?_⟩
            · simp only [Bool.false_eq_true, if_false]
              rw [this.1]
              cases r with
              | none => rfl
              | some q =>
                obtain ⟨h1, _⟩ := this.2 q rfl
                have e1 : q - i = (q - (i + 1)) + 1 := by omega
                simp [e1]
            · obtain ⟨h1, h2, ds', h3, h4⟩ := this.2 q hq
              have e1 : q - i = (q - (i + 1)) + 1 := by omega
              exact ⟨by omega, by simp; omega, ds', by rw [e1]; simpa using h3, h4⟩
      | _ => rw [hA] at hf; simp [keyEq] at hf

theorem run_findKey_key {P : Program} {w : World} {B : Nat → Prop} {e : Env} {h : Hp} {k : TypeId} (hk : keyTy P k = true) {cs : List AV} {x : Value} (hx : R w B (e.E h) (.agg cs) x) (hl : cs.length = tsz P k)
    (es : List (AV × AV × Nat)) (ents : List MapEntry) (r : Option Nat) (hlen : ents.length = es.length) (hR : ∀ j, (hj : j < es.length) → R w B (e.E h) (es[j]).1 (ents.getD j default).key) (hf : findM cs es 0 = some r) :
    (Instr.findKey k x ents).run P w = .ok (r.map fun q => (q, (ents.getD q default).val)) w ∧ (∀ q, r = some q → q < es.length ∧ ∃ ds, (es[q]?).map (·.1) = some (.agg ds) ∧ cellsEq cs ds = some true) := by
  obtain ⟨h1, h0, fs, hu, _⟩ := keyTy_parts hk
  obtain ⟨vs, rfl, _, _⟩ := R_agg hx
  have hmain := run_findAsking_key h1 h0 hx hl es ents 0 r hlen hR hf
  simp only [Nat.sub_zero, Nat.zero_le, true_and] at hmain
  refine ⟨?_, hmain.2⟩
  unfold Instr.findKey
  rw [Sem.run_bind, run_underlying hu, Result.andThen_ok]
  cases ents with
  | nil =>
    have hes : es = [] := List.length_eq_zero_iff.1 (by simpa using hlen.symm)
    subst hes
    simp only [findM, Option.some.injEq] at hf
    subst hf
    simp [Instr.findNow]
  | cons b ents =>
    have : Instr.findNow (.struct fs) (.agg vs) (b :: ents) 0 = none := by simp [Instr.findNow, Instr.sameNow]
    rw [this]
    exact hmain.1

theorem R_mr {w : World} {B : Nat → Prop} {e : Env} {h : Hp} {L : Lab} {v : Value} (hR : R w B (e.E h) (.mr L) v) : e.E h (.mr L) v := by
  cases hR with
  | ref _ _ h => exact h
theorem R_nilm {w : World} {B : Nat → Prop} {e : Env} {h : Hp} {v : Value} (hR : R w B (e.E h) .nilm v) : v = .map none := by
  cases hR with
  | nilm => rfl
  | ref _ _ h => exact h.elim

theorem mres_R {w : World} {B : Nat → Prop} {E : AV → Value → Prop} {ok : Bool} {a : AV} {v : Value} {b : Bool} (h : R w B E a v) : R w B E (mres ok a b) (if ok then .tuple #[v, .bool b] else v) := by
  unfold mres
  cases ok with
  | false => exact h
  | true =>
    refine .tup _ _ rfl (fun j hj => ?_)
    match j, hj with
    | 0, _ => exact h
    | 1, _ => exact .bool b

theorem keyK_sound {P : Program} {w : World} {B : Nat → Prop} {e : Env} {h : Hp} {kt : TypeId} {ix : AV} {iv : Value} (hi : R w B (e.E h) ix iv) {K : List AV → Prop} (hK : keyK P kt ix K) :
    ∃ cs vs, ix = .agg cs ∧ iv = .agg vs ∧ keyTy P kt = true ∧ cs.length = tsz P kt ∧ vs.size = tsz P kt ∧ cs.all AV.isInt = true ∧ K cs := by
  unfold keyK at hK
  split at hK
  · obtain ⟨h1, h2, h3, h4⟩ := hK
    obtain ⟨vs, rfl, hs, _⟩ := R_agg hi
    exact ⟨_, vs, rfl, rfl, h1, h2, by omega, h3, h4⟩
  · exact hK.elim

theorem lookup_sound {P : Program} {w : World} {B : Nat → Prop} {e : Env} {h : Hp} (hh : HRel w B e h) {t : TypeId} {x ix : AV} {v iv : Value} (hx : R w B (e.E h) x v) (hi : R w B (e.E h) ix iv) {ok : Bool} {K : AV → Prop} (hK : lookupK P (tk P t) h x ix ok K) :
    ∃ y av, (Instr.lookup t v iv ok).run P w = .ok y w ∧ R w B (e.E h) av y ∧ K av := by
  unfold lookupK at hK
  split at hK
  · rename_i kt et hk
    have hu := tk_map hk
    obtain ⟨htok, hK⟩ := hK
    obtain ⟨i, d, z, hi', hu', hz, htz, hs, htin, hby, hz1, hz2⟩ := tok_parts htok
    have hzero : (zeroValue et).run P w = .ok z w := by simp [zeroValue, typeInfo, hi', hz]
    have hzR : R w B (e.E h) (tzero P et) z := by rw [htz]; exact ofVal_R z
    have hK' := keyK_sound hi hK
    clear hK
    obtain ⟨cs, vs, rfl, rfl, h1, h2, h3, h4, hK⟩ := hK'
    unfold lookM at hK
    split at hK
    · rename_i L
      unfold lookC at hK
      split at hK
      · rename_i es ck hcon
        obtain ⟨r, hf, hK⟩ := hK
        obtain ⟨g1, _, g3⟩ := R_mr hx
        have g3 := g3 (by rw [hcon]; trivial)
        subst g3
        have hc := hh.con L g1
        rw [hcon] at hc
        obtain ⟨_, ents, hb, hlen, hR⟩ := hc
        obtain ⟨f1, f2⟩ := run_findKey_key h1 hi h2 es ents.toList r (by simpa using hlen) (fun j hj => by have := (hR j hj).1; simpa using this) hf
        have hrun : (Instr.lookup t (.map (some (e.β L).block)) (.agg vs) ok).run P w = .ok (match r with | none => if ok then .tuple #[z, .bool false] else z | some q => if ok then .tuple #[(ents.getD q default).val, .bool true] else (ents.getD q default).val) w := by
          unfold Instr.lookup
          rw [Sem.run_bind, run_underlying hu, Result.andThen_ok]
          simp only [Sem.run_bind, MapKept.run_getObj_map hb, Result.andThen_ok, Sem.run_pure, run_checkKey_key h1 _ vs h3, f1]
          cases r with
          | none => simp [hzero]
          | some q => simp
        unfold lookR at hK
        split at hK
        · exact ⟨_, _, hrun, mres_R hzR, hK⟩
        · rename_i q
          obtain ⟨hq, hK⟩ := hK
          exact ⟨_, _, hrun, mres_R (hR q hq).2.1, hK⟩
      · exact hK.elim
    · have := R_nilm hx
      subst this
      have hrun : (Instr.lookup t (.map none) (.agg vs) ok).run P w = .ok (if ok then .tuple #[z, .bool false] else z) w := by
        obtain ⟨_, _, fs, huk, _⟩ := keyTy_parts h1
        unfold Instr.lookup
        rw [Sem.run_bind, run_underlying hu, Result.andThen_ok]
        simp only [Sem.run_bind, Result.andThen_ok, Sem.run_pure, run_checkKey_key h1 _ vs h3]
        simp [Instr.findKey, run_underlying huk, Instr.findNow, hzero]
      exact ⟨_, _, hrun, mres_R hzR, hK⟩
    · exact hK.elim
  · exact hK.elim

theorem makeMap_sound {P : Program} {w : World} {B : Nat → Prop} {e : Env} {h : Hp} (hh : HRel w B e h) (t : TypeId) (f s : Nat) :
    ∃ w' e' v, (Instr.makeMap t none).run P w = .ok v w' ∧ HRel w' B e' (h.alloc f s (.mp [] 0)) ∧ Ext w B e h w' B e' (h.alloc f s (.mp [] 0)) ∧ e'.E (h.alloc f s (.mp [] 0)) (.mr (h.fresh f s)) v := by
  let w' := World.pushObj w (.map #[] 0)
  have hnb : ¬ B w.heap.size := fun hb => by have := hh.bnd _ hb; omega
  have hβ : (e.upd (h.fresh f s) ⟨w.heap.size, 0, .none⟩ undef).β (h.fresh f s) = ⟨w.heap.size, 0, .none⟩ := by simp [Env.upd]
  refine ⟨w', e.upd (h.fresh f s) ⟨w.heap.size, 0, .none⟩ undef, .map (some w.heap.size), ?_, ?_, ?_, ?_⟩
  · simp [Instr.makeMap, w', World.pushObj]
  · refine HRel.alloc hh f s _ (.map #[] 0) ⟨w.heap.size, 0, .none⟩ undef w' rfl rfl rfl rfl (fun _ h => h) (fun _ h => .inl h) rfl ?_
    refine ⟨by rw [hβ]; exact hnb, #[], by rw [hβ]; show (w.heap.push (Obj.map #[] 0))[w.heap.size]? = _; simp, rfl, fun j hj => by simp at hj⟩
  · exact Ext.alloc f s _ (.map #[] 0) ⟨w.heap.size, 0, .none⟩ undef w' rfl rfl rfl rfl (fun _ h => h) (fun _ h => .inl h) rfl
  · exact ⟨alloc_fresh_lt, ⟨_, rfl⟩, fun _ => by rw [hβ]⟩

theorem modify_getD {ents : Array MapEntry} {i : Nat} {f : MapEntry → MapEntry} {j : Nat} (hj : j < ents.size) : (ents.modify i f).getD j default = if i = j then f (ents.getD j default) else ents.getD j default := by
  have h1 : j < (ents.modify i f).size := by simpa using hj
  simp only [Array.getD_eq_getD_getElem?]
  rw [Array.getElem?_eq_getElem h1, Array.getElem?_eq_getElem hj, Array.getElem_modify]
  simp only [Option.getD_some]

theorem setBlock_other {w : World} {b b' : Nat} {o : Obj} (h : b' ≠ b) : ({ w with heap := w.heap.setIfInBounds b o } : World).heap[b']? = w.heap[b']? := by
  simp [Ne.symm h]

theorem findB_spec (b : Int) : ∀ (es : List (AV × AV × Nat)) (l : List MapEntry), l.length = es.length → (∀ j, (hj : j < es.length) → (l.getD j default).born = (es[j]).2.2) →
    l.findIdx? (fun e => (e.born : Int) == b) = (findB b es 0) ∧ ∀ q, findB b es 0 = some q → q < es.length := by
  intro es
  have shift : ∀ (es : List (AV × AV × Nat)) (i : Nat), findB b es (i + 1) = (findB b es i).map (· + 1) := by
    intro es
    induction es with
    | nil => intro i; rfl
    | cons a es ih => intro i; simp only [findB]; split <;> simp [ih]
  induction es with
  | nil =>
    intro l hl _
    have : l = [] := List.length_eq_zero_iff.1 (by simpa using hl)
    subst this
    exact ⟨rfl, fun q hq => by cases hq⟩
  | cons a es ih =>
    intro l hl hb
    cases l with
    | nil => simp at hl
    | cons c l =>
      have h0 := hb 0 (by simp)
      simp only [List.getD_cons_zero, List.getElem_cons_zero] at h0
      have := ih l (by simpa using hl) (fun j hj => by have := hb (j + 1) (by simp; omega); simpa using this)
      simp only [findB, List.findIdx?_cons, h0]
      by_cases hc : (a.2.2 : Int) = b
      · simp [hc]
      · rw [if_neg hc, shift]
        have hc' : ((a.2.2 : Int) == b) = false := by simpa using hc
        rw [hc', this.1]
        refine ⟨by simp, fun q hq => ?_⟩
        cases hf : findB b es 0 with
        | none => rw [hf] at hq; cases hq
        | some q' =>
          rw [hf] at hq
          simp at hq
          have := this.2 q' hf
          simp; omega

theorem mapHas {e : Env} {h : Hp} {L : Lab} (hk : L.k < h.cnt L.f L.s) {es : List (AV × AV × Nat)} {ck : Nat} (hcon : h.con L = .mp es ck) : e.has h L := ⟨hk, by rw [hcon]; trivial⟩

/-- The write of a map's block. -/
theorem map_write {w : World} {B : Nat → Prop} {e : Env} {h : Hp} (hh : HRel w B e h) {L : Lab} (hk : L.k < h.cnt L.f L.s) {es es' : List (AV × AV × Nat)} {ck ck' : Nat} (hcon : h.con L = .mp es ck) {ents' : Array MapEntry}
    (hlen : ents'.size = es'.length) (hR : ∀ j, (hj : j < es'.length) → R w B (e.E h) (es'[j]).1 (ents'.getD j default).key ∧ R w B (e.E h) (es'[j]).2.1 (ents'.getD j default).val ∧ (ents'.getD j default).born = (es'[j]).2.2) :
    HRel { w with heap := w.heap.setIfInBounds (e.β L).block (.map ents' ck') } B e (h.set L (.mp es' ck')) ∧ Ext w B e h { w with heap := w.heap.setIfInBounds (e.β L).block (.map ents' ck') } B e (h.set L (.mp es' ck')) := by
  have hhas := mapHas (e := e) hk hcon
  have hlive : (h.con L).live := by rw [hcon]; trivial
  have hlt := (hh.lt hhas).1
  have hnb := (hh.lt hhas).2
  have x : Ext w B e h { w with heap := w.heap.setIfInBounds (e.β L).block (.map ents' ck') } B e (h.set L (.mp es' ck')) := Ext.write hhas hlive (by simp) rfl rfl rfl (fun b hb => setBlock_other hb)
  refine ⟨HRel.write hh hhas hlive (by simp) rfl rfl rfl (fun b hb => setBlock_other hb) ⟨hk, by rw [set_con_eq hlive]; trivial⟩ ?_, x⟩
  refine ⟨hnb, ents', by simp [hlt], hlen, fun j hj => ?_⟩
  obtain ⟨g1, g2, g3⟩ := hR j hj
  exact ⟨g1.ext hh x, g2.ext hh x, g3⟩

theorem entryStore_sound {P : Program} {w : World} {B : Nat → Prop} {e : Env} {h : Hp} (hh : HRel w B e h) {t : TypeId} {x s y : AV} {v sv yv : Value} (hx : R w B (e.E h) x v) (hs : R w B (e.E h) s sv) (hy : R w B (e.E h) y yv) {K : Hp → Prop} (hK : entryStoreK h x s y K) :
    ∃ w' h', (Instr.entryStore t v sv yv).run P w = .ok () w' ∧ HRel w' B e h' ∧ Ext w B e h w' B e h' ∧ K h' := by
  unfold entryStoreK at hK
  split at hK
  · rename_i L b
    have := R_int hs
    subst this
    unfold estoreC at hK
    split at hK
    · rename_i es ck hcon
      obtain ⟨g1, _, g3⟩ := R_mr hx
      have g3 := g3 (by rw [hcon]; trivial)
      subst g3
      have hc := hh.con L g1
      rw [hcon] at hc
      obtain ⟨_, ents, hb, hlen, hR⟩ := hc
      obtain ⟨f1, f2⟩ := findB_spec b es ents.toList (by simpa using hlen) (fun j hj => by have := (hR j hj).2.2; simpa using this)
      unfold estoreR at hK
      split at hK
      · rename_i i hi
        obtain ⟨hlt, hK⟩ := hK
        obtain ⟨p1, p2⟩ := map_write (es' := es.set i ((es[i]).1, y, (es[i]).2.2)) (ck' := ck) (ents' := ents.modify i fun e => { e with val := yv }) hh g1 hcon (by simp [hlen]) (fun j hj => by
          rw [List.length_set] at hj
          rw [modify_getD (by omega)]
          obtain ⟨q1, q2, q3⟩ := hR j hj
          by_cases hij : i = j
          · subst hij
            simp only [List.getElem_set_self, if_true]
            exact ⟨q1, hy, q3⟩
          · rw [List.getElem_set_ne hij, if_neg hij]
            exact ⟨q1, q2, q3⟩)
        refine ⟨_, _, ?_, p1, p2, hK⟩
        have hfi : ents.findIdx? (fun e => (e.born : Int) == b) = some i := by
          rw [hi] at f1
          rw [← f1]; cases ents; simp
        simp [Instr.entryStore, MapKept.run_getObj_map hb, asInt, asIntOf, hfi, MapKept.run_setObj_map _ hb, Result.andThen]
      · exact hK.elim
    · exact hK.elim
  · exact hK.elim

theorem sameBits_ints {vs us : Array Value} (h : ∀ j, j < vs.size → ∃ k n, vs.getD j undef = .int k n) (he : us = vs) (n : Nat) : Instr.sameBits (n + 1) (.agg us) (.agg vs) = true := by
  subst he
  simp only [Instr.sameBits, Bool.and_eq_true, beq_self_eq_true, true_and]
  rw [List.all_eq_true]
  rintro ⟨a, b⟩ hab
  obtain ⟨i, hi, hE⟩ := List.getElem_of_mem hab
  rw [List.getElem_zip] at hE
  injection hE with e1 e2
  subst e1; subst e2
  have hi' : i < us.size := by simpa using hi
  obtain ⟨k, m, hv⟩ := h i hi'
  have : us[i] = .int k m := by simpa [hi'] using hv
  simp [this, Instr.sameBits]

theorem mapEntry_sound {P : Program} {w : World} {B : Nat → Prop} {e : Env} {h : Hp} (hh : HRel w B e h) {t : TypeId} {x ix : AV} {v iv : Value} (hx : R w B (e.E h) x v) (hi : R w B (e.E h) ix iv) {K : AV → Hp → Prop} (hK : mapEntryK P (tk P t) h x ix K) :
    ∃ w' y h' av, (Instr.mapEntry t v iv).run P w = .ok y w' ∧ HRel w' B e h' ∧ Ext w B e h w' B e h' ∧ R w' B (e.E h') av y ∧ K av h' := by
  unfold mapEntryK at hK
  split at hK
  · rename_i kt et hk
    have hu := tk_map hk
    obtain ⟨htok, hK⟩ := hK
    obtain ⟨i, d, z, hi', hu', hz, htz, hs, htin, hby, hz1, hz2⟩ := tok_parts htok
    have hzero : (zeroValue et).run P w = .ok z w := by simp [zeroValue, typeInfo, hi', hz]
    have hzR : R w B (e.E h) (tzero P et) z := by rw [htz]; exact ofVal_R z
    have hK' := keyK_sound hi hK
    clear hK
    obtain ⟨cs, vs, rfl, rfl, h1, h2, h3, h4, hK⟩ := hK'
    unfold entryM at hK
    split at hK
    · rename_i L
      unfold entryC at hK
      split at hK
      · rename_i es ck hcon
        obtain ⟨r, hf, hK⟩ := hK
        obtain ⟨g1, _, g3⟩ := R_mr hx
        have g3 := g3 (by rw [hcon]; trivial)
        subst g3
        have hc := hh.con L g1
        rw [hcon] at hc
        obtain ⟨_, ents, hb, hlen, hR⟩ := hc
        obtain ⟨f1, f2⟩ := run_findKey_key h1 hi h2 es ents.toList r (by simpa using hlen) (fun j hj => by have := (hR j hj).1; simpa using this) hf
        have pair2 : ∀ {w' : World} {h' : Hp} {a : AV} {u : Value} {b : Int}, R w' B (e.E h') a u → R w' B (e.E h') (.tup [a, .int .i64 b]) (.tuple #[u, goInt b]) := by
          intro w' h' a u b hu
          refine .tup _ _ rfl (fun j hj => ?_)
          match j, hj with
          | 0, _ => exact hu
          | 1, _ => exact .int _ _
        unfold entryR at hK
        split at hK
        · obtain ⟨p1, p2⟩ := map_write (es' := es ++ [(.agg cs, tzero P et, ck)]) (ck' := ck + 1) (ents' := ents.push ⟨.agg vs, z, ck⟩) hh g1 hcon (by simp [hlen]) (fun j hj => by
            by_cases hjl : j < es.length
            · rw [List.getElem_append_left hjl]
              have : (ents.push ⟨.agg vs, z, ck⟩).getD j default = ents.getD j default := by
                have hjs : j < ents.size := by omega
                simp [Array.getElem?_push, hjs, Nat.ne_of_lt hjs]
              rw [this]; exact hR j hjl
            · have hje : j = es.length := by simp at hj; omega
              subst hje
              have : (ents.push ⟨.agg vs, z, ck⟩).getD es.length default = ⟨.agg vs, z, ck⟩ := by rw [← hlen]; simp
              rw [this]
              simp only [List.getElem_concat_length]
              exact ⟨hi, hzR, trivial⟩)
          refine ⟨_, .tuple #[z, goInt ck], _, _, ?_, p1, p2, pair2 (hzR.ext hh p2), hK⟩
          unfold Instr.mapEntry
          rw [Sem.run_bind, run_underlying hu, Result.andThen_ok]
          simp only [Sem.run_bind, MapKept.run_getObj_map hb, Result.andThen_ok, run_checkKey_key h1 _ vs h3, f1, Option.map_none, hzero, MapKept.run_setObj_map _ hb, Sem.run_pure]
        · rename_i q
          obtain ⟨hq, hK⟩ := hK
          obtain ⟨_, ds, hd1, hd2⟩ := f2 q rfl
          have hlive : (h.con L).live := by rw [hcon]; trivial
          -- the entry's key is the key
          have hkey : (ents.getD q default).key = .agg vs := by
            have hr := (hR q hq).1
            have : (es[q]).1 = .agg ds := by simpa [hq] using hd1
            rw [this] at hr
            obtain ⟨c1, kk, u, v', c2, c3, c4⟩ := cellsEq_ints cs ds true hd2
            have c4 := of_decide_eq_true c4.symm
            have e1 := aggRow hi h2 c2
            have e2 := aggRow hr (c1.trans h2) (fun j hj => c3 j (by omega))
            rw [e2, e1]
            simp only [rowVal, if_true]
            refine congrArg Value.agg (congrArg List.toArray (List.map_congr_left ?_))
            intro j hj
            rw [List.mem_range] at hj
            simp only [intRow, Nat.zero_add]
            rw [c4 j (by omega)]
          have hmod : ents.modify q (fun e => { e with key := .agg vs }) = ents := by
            apply Array.ext
            · simp
            · intro j g1 g2
              rw [Array.getElem_modify]
              split
              · rename_i hqj
                subst hqj
                have : ents.getD q default = ents[q] := by simp [g2]
                rw [this] at hkey
                have gen : ∀ m : MapEntry, m.key = .agg vs → ({ m with key := .agg vs } : MapEntry) = m := by
                  rintro ⟨a, b, c⟩ hm
                  simp only at hm
                  rw [hm]
                exact gen _ hkey
              · rfl
          have hsame : { w with heap := w.heap.setIfInBounds (e.β L).block (.map ents ck) } = w := by
            have : w.heap.setIfInBounds (e.β L).block (.map ents ck) = w.heap := by
              apply Array.ext
              · simp
              · intro j g1 g2
                rw [Array.getElem_setIfInBounds]
                split
                · rename_i hj
                  subst hj
                  rw [Array.getElem?_eq_getElem g2] at hb
                  injection hb with hb
                  exact hb.symm
                · rfl
            rw [this]
          refine ⟨w, .tuple #[(ents.getD q default).val, goInt (ents.getD q default).born], h, _, ?_, hh, Ext.refl _ _ _ _, ?_, hK⟩
          · obtain ⟨vs', hE, hsz, hints⟩ := key_vals hi h4
            injection hE with hE
            subst hE
            have hbits : Instr.sameBits 10000 (.agg vs) (.agg vs) = true := sameBits_ints (fun j hj => by obtain ⟨k, n, _, h⟩ := hints j (by omega); exact ⟨k, n, h⟩) rfl 9999
            have hqs : q < ents.size := by omega
            have hek : ents[q].key = .agg vs := by
              have : ents.getD q default = ents[q] := by simp [hqs]
              rw [this] at hkey; exact hkey
            unfold Instr.mapEntry
            rw [Sem.run_bind, run_underlying hu, Result.andThen_ok]
            simp only [Sem.run_bind, MapKept.run_getObj_map hb, Result.andThen_ok, run_checkKey_key h1 _ vs h3, f1, Option.map_some]
            simp [Instr.keyThatStays, hqs, hek, hbits, MapKept.run_setObj_map _ hb, hmod, hsame]
          · have := (hR q hq).2
            rw [this.2]
            exact pair2 this.1
      · exact hK.elim
    · exact hK.elim
  · exact hK.elim

end Go.T
/- Soundness, fifteenth part: make; one operation is sound. -/
namespace Go.T
open Go

theorem makeSlice_sound {P : Program} {w : World} {B : Nat → Prop} {e : Env} {h : Hp} (hh : HRel w B e h) {t : TypeId} {n c : AV} {vn vc : Value} (hn : R w B (e.E h) n vn) (hc : R w B (e.E h) c vc) (f s : Nat)
    {K : AV → Hp → Prop} (hK : makeSliceO P (tk P t) h f s n c K) :
    ∃ w' v h' e' av, (Instr.makeSlice t vn vc).run P w = .ok v w' ∧ HRel w' B e' h' ∧ Ext w B e h w' B e' h' ∧ R w' B (e'.E h') av v ∧ K av h' := by
  unfold makeSliceO at hK
  split at hK
  · rename_i el hk
    have hu := tk_slice hk
    obtain ⟨hel, hK⟩ := hK
    obtain ⟨i, d, z, hi, hu', hz, htz, hs, htin, hby, hz1, hz2⟩ := tok_parts hel
    unfold makeSliceK at hK
    split at hK
    · rename_i a b
      obtain ⟨rfl, h0, h1, h2, h3, h4, hK⟩ := hK
      obtain rfl := R_int hn
      obtain rfl := R_int hc
      have hzr := ofVal_cells (w := w) (B := B) (E := e.E h) z
      rw [← htz] at hzr
      obtain ⟨e', p1, p2, p3⟩ := newArr (w := w) hh f s (tsz P el) [] (List.replicate a.toNat (tzero P el)) (fun _ _ => undef) (fun _ j => z.cells.getD j undef) #[] el a.toNat
        (fun i hi => by simp at hi) (fun i hi => by simp [h3]) (fun i j hi => by simp at hi) (fun i j hi => by simp at hi)
        (fun i j hi hj => by simp only [List.getElem_replicate]; exact hzr.2 j (by omega))
        (fun i j hi hj => by
          refine hz1 _ ?_
          have hlt : j < z.cells.toList.length := by rw [Array.length_toList, hz2, ← hs]; exact hj
          have : z.cells.getD j undef = z.cells.toList[j] := by
            have : j < z.cells.size := by simpa using hlt
            simp [this]
          rw [this]
          exact List.getElem_mem hlt) (by simp) (by simp)
      refine ⟨_, .slice (some ⟨w.heap.size, 0, none⟩) a.toNat a.toNat, _, e', .os (h.fresh f s), ?_, p1, p2, .ref _ _ (by simpa using p3), by simpa using hK⟩
      have w1 : IntKind.i64.wrap a = a := IntWalk.i64_in a (by omega)
      have hz0 : 0 < i.size := by omega
      have hb : ¬ (a * (i.bytes : Int) > 2 ^ 48) := by rw [← hby]; omega
      have hrow : ∀ q : Nat, ((Array.range (a.toNat * i.size)).map (z.cells[· % z.cells.size]!)) = (flatRow (tsz P el) a.toNat (fun _ j => z.cells.getD j undef)).toArray := by
        intro _
        apply Array.ext
        · simp [flatRow, hs]
        · intro q h1 h2
          have hq : q % i.size < z.cells.size := by rw [hz2]; exact Nat.mod_lt _ hz0
          simp only [flatRow, hs, List.getElem_toArray, List.getElem_map, List.getElem_range, Array.getElem_map, Array.getElem_range, hz2]
          rw [getElem!_pos z.cells (q % i.size) hq]
          simp [hq]
      have hrow := hrow 0
      simp only [Instr.makeSlice, Sem.run_bind, run_underlying hu, Result.andThen_ok, asInt, asIntOf, Sem.run_pure, typeInfo, run_program, hi, w1]
      have hc1 : (decide (a < 0) || decide ((i.bytes : Int) * a > 2 ^ 48)) = false := by
        rw [Int.mul_comm]
        simp only [Bool.or_eq_false_iff, decide_eq_false_iff_not]
        exact ⟨by omega, hb⟩
      have hc2 : ¬ ((decide (a < 0) || decide ((i.bytes : Int) * a > 2 ^ 48) || decide (a < 0) || decide (a > a)) = true) := by
        rw [hc1]; simp; omega
      rw [if_neg hc2]
      simp only [Sem.run_bind, run_askRoom, Result.andThen_ok, run_sizeOf w htin]
      rw [hs]
      by_cases h0' : a.toNat * i.size = 0
      · have ha0 : a.toNat = 0 := by
          rcases Nat.mul_eq_zero.1 h0' with h | h <;> omega
        rw [if_pos h0']
        have hr0 : ∀ f : Nat → Value, (Array.range 0).map f = #[] := fun f => Array.eq_empty_of_size_eq_zero (by simp)
        simp [newRow, World.pushObj, ha0, flatRow, hr0]
      · rw [if_neg h0']
        simp only [zeroValue, typeInfo, Sem.run_bind, run_program, Result.andThen_ok, hi, hz, Sem.run_pure, hrow]
        simp [newRow, World.pushObj, flatRow, hs]
    · exact hK.elim
  · exact hK.elim

/-- What is left by an operation: an abstract state aas wanted, related. -/
def Nx (w0 : World) (B0 : Nat → Prop) (e0 : Env) (h0 : Hp) (n : Nat) (ds : List Deferred) (K : St → Prop) (a' : Act) (w' : World) : Prop :=
  ∃ st' B' e', K st' ∧ Rel w' B' e' n st' a' ∧ Ext w0 B0 e0 h0 w' B' e' st'.hp ∧ a'.defers = ds

theorem put_defers (a : Act) (d : Option Nat) (v : Value) : (a.put d v).defers = a.defers := by cases d <;> rfl

theorem Rel.step {w w' : World} {B B' : Nat → Prop} {e e' : Env} {n : Nat} {st : St} {a : Act} (hr : Rel w B e n st a) {h' : Hp} (hh : HRel w' B' e' h') (x : Ext w B e st.hp w' B' e' h') : Rel w' B' e' n (st.withHp h') a :=
  ⟨hh, fun i => (hr.slots i).ext hr.hp x, hr.size⟩

section
variable {P : Program} {w0 : World} {B0 : Nat → Prop} {e0 : Env} {h0 : Hp} {n : Nat} {ds : List Deferred} {K : St → Prop} {w : World} {B : Nat → Prop} {e : Env} {st : St} {a : Act}

theorem Nx.value (hr : Rel w B e n st a) (hx : Ext w0 B0 e0 h0 w B e st.hp) (hds : a.defers = ds) {d : Option Nat} (hd : ∀ x, d = some x → x < n) {av : AV} {v : Value} (hv : R w B (e.E st.hp) av v) (hK : K (st.put d av)) :
    Nx w0 B0 e0 h0 n ds K (a.put d v) w :=
  ⟨st.put d av, B, e, hK, hr.put d av v hv hd, by rw [put_hp]; exact hx, by rw [put_defers]; exact hds⟩

theorem Nx.heap (hr : Rel w B e n st a) (hx : Ext w0 B0 e0 h0 w B e st.hp) (hds : a.defers = ds) {d : Option Nat} (hd : ∀ x, d = some x → x < n) {w' : World} {B' : Nat → Prop} {e' : Env} {h' : Hp}
    (hh : HRel w' B' e' h') (x : Ext w B e st.hp w' B' e' h') {av : AV} {v : Value} (hv : R w' B' (e'.E h') av v) (hK : K ((st.withHp h').put d av)) :
    Nx w0 B0 e0 h0 n ds K (a.put d v) w' :=
  Nx.value (st := st.withHp h') (hr.step hh x) (hx.trans x) hds hd hv hK

theorem two_args {args : Array Operand} {st : St} {x y : AV} (h : args.toList.map st.ev = [x, y]) : ∃ a0 a1, args = #[a0, a1] ∧ st.ev a0 = x ∧ st.ev a1 = y := by
  obtain ⟨l⟩ := args
  cases l with
  | nil => simp at h
  | cons a l => cases l with
    | nil => simp at h
    | cons b l => cases l with
      | nil => simp at h; exact ⟨a, b, rfl, h.1, h.2⟩
      | cons c l => simp at h
/-- What the machine does at an operation is aas wanted. -/
def Fin (P : Program) (w0 : World) (B0 : Nat → Prop) (e0 : Env) (h0 : Hp) (n : Nat) (ds : List Deferred) (K : St → Prop) (d : Option Nat) (a : Act) : Result Next → Prop
  | .ok (.value v) w' => Nx w0 B0 e0 h0 n ds K (a.put d v) w'
  | .ok .skip w' => Nx w0 B0 e0 h0 n ds K (a.put d undef) w'
  | .ok (.enter f args) w' => Calls P f args w' fun
      | .returned v, w'' => Nx w0 B0 e0 h0 n ds K (a.put d v) w''
      | _, _ => False
  | .ok (.round l f tmps asg body) w' => ∀ r m, RoundIn (wr r) m P l f tmps asg body w' fun
      | .returned v, w'' => Nx w0 B0 e0 h0 n ds K (a.put d v) w''
      | _, _ => False
  | _ => False

theorem Fin.value (hr : Rel w B e n st a) (hx : Ext w0 B0 e0 h0 w B e st.hp) (hds : a.defers = ds) {d : Option Nat} (hd : ∀ x, d = some x → x < n) {s : Sem Value}
    (h : ∃ x av, s.run P w = .ok x w ∧ R w B (e.E st.hp) av x ∧ K (st.put d av)) : Fin P w0 B0 e0 h0 n ds K d a ((do pure (.value (← s)) : Sem Next).run P w) := by
  obtain ⟨x, av, h1, h2, h3⟩ := h
  rw [Sem.run_bind, h1]
  exact Nx.value hr hx hds hd h2 h3

theorem nilSlice_val {y : Operand} {ρ : Act} (h : nilSlice y = true) : ∃ n c, ρ.eval y = .slice none n c := by
  unfold nilSlice at h
  split at h
  · exact ⟨_, _, rfl⟩
  · cases h

theorem opK_sound (fid : Nat) (o : Oper) (hr : Rel w B e n st a) (hx : Ext w0 B0 e0 h0 w B e st.hp) (hds : a.defers = ds) (hd : ∀ x, o.dst = some x → x < n) (hK : opK P fid o st K) :
    Fin P w0 B0 e0 h0 n ds K o.dst a ((execOp a.eval o).run P w) := by
  unfold opK at hK
  unfold execOp
  generalize o.op = op at hK ⊢
  cases op <;> dsimp only at hK ⊢ <;> try exact hK.elim
  case move x => exact Nx.value hr hx hds hd (ev_R hr x) hK
  case assign x => exact Nx.value hr hx hds hd (ev_R hr x) hK
  case pick c x y =>
    unfold pickK at hK
    split at hK
    · rename_i t hc
      have h1 := ev_R hr c
      rw [hc] at h1
      have h1 := R_bool h1
      simp only [h1, asBool, Sem.run_bind, Sem.run_pure, Result.andThen_ok]
      cases t
      · exact Nx.value hr hx hds hd (ev_R hr y) hK
      · exact Nx.value hr hx hds hd (ev_R hr x) hK
    · exact hK.elim
  case alloc t =>
    obtain ⟨ht, hK⟩ := hK
    obtain ⟨w', e', v, h1, h2, h3, h4⟩ := alloc_sound hr.hp ht fid (o.dst.getD 0)
    rw [Sem.run_bind, h1]
    exact Nx.heap hr hx hds hd h2 h3 (.ref _ _ h4) hK
  case box t x =>
    obtain ⟨hc, hK⟩ := hK
    obtain ⟨w', e', v, h1, h2, h3, h4⟩ := box_sound (P := P) (t := t) hr.hp (ev_R hr x) hc fid (o.dst.getD 0)
    rw [Sem.run_bind, h1]
    exact Nx.heap hr hx hds hd h2 h3 (.ref _ _ h4) hK
  case build t parts => exact Fin.value hr hx hds hd (build_sound hr parts hK)
  case buildSlice t len parts =>
    obtain ⟨w', B', x, av, h1, h2, h3, h4, h5⟩ := buildSlice_sound hr len parts hK
    rw [Sem.run_bind, h1]
    exact Nx.heap (st := st) hr hx hds hd h2 h3 h4 h5
  case load t x =>
    obtain ⟨ht, hK⟩ := hK
    exact Fin.value hr hx hds hd (loadK_sound hr.hp ht (ev_R hr x) hK)
  case store t x y =>
    obtain ⟨ht, hK⟩ := hK
    obtain ⟨w', h', h1, h2, h3, h4⟩ := storeK_sound (P := P) hr.hp ht (ev_R hr x) (ev_R hr y) hK
    rw [Sem.run_bind, h1]
    exact Nx.heap hr hx hds hd h2 h3 .un h4
  case nilCheck x =>
    obtain ⟨⟨p, hp⟩, h2, h3⟩ := nilCheck_sound (ev_R hr x) hK
    have := Nx.value (K := K) hr hx hds hd h2 h3
    rw [hp] at this
    simp only [hp]
    exact this
  case binOp op xt x y yt =>
    exact Fin.value hr hx hds hd (binK_sound (ev_R hr x) (ev_R hr y) x y (fun h => nilSlice_val h) hK)
  case unOp op xt x => exact Fin.value hr hx hds hd (unK_sound (ev_R hr x) hK)
  case convert s t x => exact Fin.value hr hx hds hd (conv_sound (ev_R hr x) hK)
  case makeFunc fn first caps =>
    obtain ⟨h1, hK⟩ := hK
    have hf : first = #[] := by simpa using h1
    subst hf
    refine Fin.value hr hx hds hd ⟨.func fn #[] (caps.map a.eval), _, by simp [Instr.makeFunc], ?_, hK⟩
    refine .fn fn (caps.toList.map st.ev) (caps.map a.eval) (by simp) (fun j hj => ?_)
    have hj' : j < caps.size := by simpa using hj
    have := ev_R hr caps[j]
    simpa [hj'] using this
  case makeSlice t x y =>
    obtain ⟨w', v, h', e', av, h1, h2, h3, h4, h5⟩ := makeSlice_sound hr.hp (ev_R hr x) (ev_R hr y) fid (o.dst.getD 0) hK
    rw [Sem.run_bind, h1]
    exact Nx.heap hr hx hds hd h2 h3 h4 h5
  case slice t x lo hi mx =>
    exact Fin.value hr hx hds hd (sliceO_sound hr (ev_R hr x) hK)
  case fieldAddr s x f =>
    unfold fieldAddrO at hK
    split at hK
    · rename_i off m t hf
      exact Fin.value hr hx hds hd (fieldAddr_sound hf (ev_R hr x) hK)
    · exact hK.elim
  case field s x f =>
    unfold fieldO at hK
    split at hK
    · rename_i off m t cs hf hc
      obtain ⟨ho, hK⟩ := hK
      have h1 := ev_R hr x
      rw [hc] at h1
      obtain ⟨y, h2, h3⟩ := field_sound hf h1 ho
      exact Fin.value hr hx hds hd ⟨y, _, h2, h3, hK⟩
    · exact hK.elim
  case indexAddr t x ix =>
    unfold indexAddrO at hK
    split at hK
    · rename_i m el hk
      obtain ⟨_, h2, _, hK⟩ := hK
      exact Fin.value hr hx hds hd (indexArr_sound hk h2 (ev_R hr x) (ev_R hr ix) hK)
    · rename_i el hk
      obtain ⟨h2, _, hK⟩ := hK
      exact Fin.value hr hx hds hd (indexSlice_sound hr.hp hk h2 (ev_R hr x) (ev_R hr ix) hK)
    · exact hK.elim
  case index t x ix =>
    unfold indexO at hK
    split at hK
    · rename_i m el hk
      obtain ⟨h2, hK⟩ := hK
      exact Fin.value hr hx hds hd (indexAgg_sound hk h2 (ev_R hr x) (ev_R hr ix) hK)
    · rename_i hk
      exact Fin.value hr hx hds hd (indexStr_sound hk (ev_R hr x) (ev_R hr ix) hK)
    · exact hK.elim
  case extract x i => exact Fin.value hr hx hds hd (extract_sound (ev_R hr x) hK)
  case makeMap t r =>
    cases r with
    | some r => exact hK.elim
    | none =>
      obtain ⟨w', e', v, h1, h2, h3, h4⟩ := makeMap_sound (P := P) hr.hp t fid (o.dst.getD 0)
      simp only [Option.map_none]
      rw [Sem.run_bind, h1]
      exact Nx.heap hr hx hds hd h2 h3 (.ref _ _ h4) hK
  case lookup t x ix ok => exact Fin.value hr hx hds hd (lookup_sound hr.hp (ev_R hr x) (ev_R hr ix) hK)
  case mapEntry t x ix =>
    obtain ⟨w', y, h', av, h1, h2, h3, h4, h5⟩ := mapEntry_sound (P := P) hr.hp (ev_R hr x) (ev_R hr ix) hK
    rw [Sem.run_bind, h1]
    exact Nx.heap hr hx hds hd h2 h3 h4 h5
  case entryStore t x s y =>
    obtain ⟨w', h', h1, h2, h3, h4⟩ := entryStore_sound (P := P) (t := t) hr.hp (ev_R hr x) (ev_R hr s) (ev_R hr y) hK
    rw [Sem.run_bind, h1]
    exact Nx.heap hr hx hds hd h2 h3 .un h4
  case call c =>
    obtain ⟨callee, args, ats⟩ := c
    dsimp only at hK
    unfold calleeK at hK
    split at hK
    · rename_i f
      simp only [Callee.ev] at hK
      unfold callV at hK
      split at hK
      · rename_i g caps hf
        obtain ⟨hb, hK⟩ := hK
        have h1 := ev_R hr f
        rw [hf] at h1
        obtain ⟨vs, h2, h3, h4⟩ := R_fn h1
        have hrun : (do let d ← resolve a.eval { callee := .value f, args := args, argTypes := ats } o.type; invoke d.target d.args : Sem Next).run P w = .ok (.enter g (args.map a.eval ++ vs)) w := by
          unfold hasBody at hb
          split at hb
          · rename_i fn hfn
            simp only [Bool.and_eq_true, bne_iff_ne, ne_eq] at hb
            obtain ⟨bd, hbd⟩ := Option.isSome_iff_exists.1 hb.1
            simp [resolve, h2, Deferred.ofValue, invoke, callFunc, hfn, hb.2, hbd]
          · cases hb
        rw [hrun]
        have hl : (args.toList.map st.ev ++ caps).length = args.size + caps.length := by simp
        refine (hK w B e (args.map a.eval ++ vs) hr.hp (by simp [h3]) (fun i hi => ?_)).mono ?_
        · rw [hl] at hi
          by_cases hlt : i < args.size
          · have e1 : (args.toList.map st.ev ++ caps).getD i .un = st.ev args[i] := by
              simp [List.getD_eq_getElem?_getD, List.getElem?_append_left, hlt]
            have e2 : (args.map a.eval ++ vs).getD i undef = a.eval args[i] := by
              simp [Array.getElem?_append_left, hlt]
            rw [e1, e2]; exact ev_R hr _
          · have hj : i - args.size < caps.length := by omega
            have e1 : (args.toList.map st.ev ++ caps).getD i .un = caps.getD (i - args.size) .undef := by
              rw [List.getD_eq_getElem?_getD, List.getElem?_append_right (by simp; omega)]
              simp [hj]
            have e2 : (args.map a.eval ++ vs).getD i undef = vs.getD (i - args.size) undef := by
              have : i - args.size < vs.size := by omega
              simp only [Array.getD_eq_getD_getElem?]
              rw [Array.getElem?_append_right (by simp; omega)]
              simp
            rw [e1, e2]; exact h4 _ hj
        · rintro en w' ⟨v, r, h', B', e', rfl, g1, g2, g3, g4⟩
          exact Nx.heap hr hx hds hd g1 g2 g3 g4
      · rename_i L hf
        have h1 := ev_R hr f
        rw [hf] at h1
        obtain ⟨hk, h2⟩ := R_yl h1
        obtain ⟨f', tmps, asg, body, h3, h4⟩ := hK w B e (args.map a.eval) hr.hp hk (by simp) (fun i hi => by
          have hlt : i < args.size := by simpa using hi
          have e1 : (args.toList.map st.ev).getD i .un = st.ev args[i] := by
            simp [List.getD_eq_getElem?_getD, hlt]
          have e2 : (args.map a.eval).getD i undef = a.eval args[i] := by
            simp [hlt]
          rw [e1, e2]; exact ev_R hr _)
        have hrun : (do let d ← resolve a.eval { callee := .value f, args := args, argTypes := ats } o.type; invoke d.target d.args : Sem Next).run P w = .ok (.round (e.β L).block f' tmps asg body) w := by
          simp [resolve, h2, Deferred.ofValue, invoke, h3]
        rw [hrun]
        intro r m
        refine (h4 r m).mono ?_
        rintro en w' ⟨v, r', h', B', e', rfl, g1, g2, g3, g4⟩
        exact Nx.heap hr hx hds hd g1 g2 g3 g4
      · exact hK.elim
    · split at hK
      · rename_i x t hx' ht
        obtain ⟨a0, rfl⟩ : ∃ y, args = #[y] := by
          obtain ⟨l⟩ := args
          cases l with
          | nil => simp at hx'
          | cons y l => cases l with
            | nil => exact ⟨y, rfl⟩
            | cons z l => simp at hx'
        obtain rfl : ats = #[t] := by rw [← Array.toArray_toList (xs := ats), ht]
        simp only [List.map_cons, List.map_nil, List.cons.injEq, and_true] at hx'
        subst hx'
        obtain ⟨v, av, h1, h2, h3⟩ := lenK_sound (P := P) hr.hp (ev_R hr a0) hK o.type
        have hrun : (do let d ← resolve a.eval { callee := .builtin .len, args := #[a0], argTypes := #[t] } o.type; invoke d.target d.args : Sem Next).run P w = .ok (.value v) w := by
          simp [resolve, invoke, builtin, h1]
        rw [hrun]
        exact Nx.value (st := st.withHp st.hp) hr hx hds hd h2 h3
      · exact hK.elim
    · split at hK
      · rename_i x y t u hx' ht
        obtain rfl : ats = #[t, u] := by rw [← Array.toArray_toList (xs := ats), ht]
        obtain ⟨a0, a1, rfl⟩ : ∃ y z, args = #[y, z] := by
          obtain ⟨l⟩ := args
          cases l with
          | nil => simp at hx'
          | cons y l => cases l with
            | nil => simp at hx'
            | cons z l => cases l with
              | nil => exact ⟨y, z, rfl⟩
              | cons z l => simp at hx'
        simp only [List.map_cons, List.map_nil, List.cons.injEq, and_true] at hx'
        obtain ⟨rfl, rfl⟩ := hx'
        unfold appendO at hK
        split at hK
        · rename_i el el' hk1 hk2
          obtain ⟨hel, hK⟩ := hK
          obtain ⟨w', v, h', e', av, h1, h2, h3, h4, h5⟩ := appendK_sound (ty := o.type) hr.hp hk1 hk2 hel (ev_R hr a0) (ev_R hr a1) fid (o.dst.getD 0) hK
          have hrun : (do let d ← resolve a.eval { callee := .builtin .append, args := #[a0, a1], argTypes := #[t, u] } o.type; invoke d.target d.args : Sem Next).run P w = .ok (.value v) w' := by
            simp [resolve, invoke, builtin, h1]
          rw [hrun]
          exact Nx.heap hr hx hds hd h2 h3 h4 h5
        · rename_i el hk1 hk2
          obtain ⟨hel, h1s, hK⟩ := hK
          obtain ⟨w', v, h', e', av, h1, h2, h3, h4, h5⟩ := appendS_sound (ty := o.type) hr.hp hk1 hk2 hel h1s (ev_R hr a0) (ev_R hr a1) fid (o.dst.getD 0) hK
          have hrun : (do let d ← resolve a.eval { callee := .builtin .append, args := #[a0, a1], argTypes := #[t, u] } o.type; invoke d.target d.args : Sem Next).run P w = .ok (.value v) w' := by
            simp [resolve, invoke, builtin, h1]
          rw [hrun]
          exact Nx.heap hr hx hds hd h2 h3 h4 h5
        · exact hK.elim
      · exact hK.elim
    · unfold mmK at hK
      split at hK
      · rename_i k x k' y hargs
        obtain ⟨a0, a1, rfl, hx0, hx1⟩ := two_args hargs
        have g0 := R_int (by rw [← hx0]; exact ev_R hr a0)
        have g1 := R_int (by rw [← hx1]; exact ev_R hr a1)
        have hrun : (do let d ← resolve a.eval { callee := .builtin .min, args := #[a0, a1], argTypes := ats } o.type; invoke d.target d.args : Sem Next).run P w = .ok (.value (.int k (if y < x then y else x))) w := by
          simp [resolve, invoke, builtin, Builtin.min_, Builtin.min2, g0, g1]
        rw [hrun]
        exact Nx.value (st := st.withHp st.hp) hr hx hds hd (.int _ _) hK
      · exact hK.elim
    · unfold mmK at hK
      split at hK
      · rename_i k x k' y hargs
        obtain ⟨a0, a1, rfl, hx0, hx1⟩ := two_args hargs
        have g0 := R_int (by rw [← hx0]; exact ev_R hr a0)
        have g1 := R_int (by rw [← hx1]; exact ev_R hr a1)
        have hrun : (do let d ← resolve a.eval { callee := .builtin .max, args := #[a0, a1], argTypes := ats } o.type; invoke d.target d.args : Sem Next).run P w = .ok (.value (.int k (if y > x then y else x))) w := by
          simp [resolve, invoke, builtin, Builtin.max_, Builtin.max2, g0, g1]
        rw [hrun]
        exact Nx.value (st := st.withHp st.hp) hr hx hds hd (.int _ _) hK
      · exact hK.elim
    · exact hK.elim

end

end Go.T
/- Freezing, and going back to an elder heap: what is carried over. -/
namespace Go.T
open Go
/-- What is related ahead and behind stays so for the labels known ahead. -/
theorem R.restore {w w' : World} {B B' : Nat → Prop} {e e' : Env} {h h' h3 : Hp} (hE : ∀ a v1 v2, e.E h a v1 → e'.E h' a v2 → e'.E h3 a v2) {a : AV} {v : Value} (hR : R w B (e.E h) a v) :
    ∀ v2, R w' B' (e'.E h') a v2 → R w' B' (e'.E h3) a v2 := by
  induction hR with
  | undef v => intro v2 _; exact .undef v2
  | un => intro v2 h2; rw [R_un h2]; exact .un
  | int k n => intro v2 h2; rw [R_int h2]; exact .int k n
  | bool b => intro v2 h2; rw [R_bool h2]; exact .bool b
  | str s => intro v2 h2; rw [R_str h2]; exact .str s
  | nilp => intro v2 h2; rw [R_nilp h2]; exact .nilp
  | nilf => intro v2 h2; rw [R_nilf h2]; exact .nilf
  | nilm =>
    intro v2 h2
    cases h2 with
    | nilm => exact .nilm
    | ref _ _ hr => exact hr.elim
  | l0 ex sz a c hx =>
    intro v2 h2
    cases h2 with
    | l0 _ _ a' c' hx' => exact .l0 ex sz a' c' hx'
    | l _ _ _ b off cap vs h1 => exact absurd rfl h1
    | ref _ _ hr => exact hr.elim
  | l ex sz xs b off cap vs h1 h2 h3 h4 h5 h6 _ h8 ih =>
    intro v2 g
    cases g with
    | l0 _ _ a' c' hx' => exact absurd rfl h1
    | l _ _ _ b' off' cap' vs' g1 g2 g3 g4 g5 g6 g7 g8 => exact .l ex sz xs b' off' cap' vs' g1 g2 g3 g4 g5 g6 (fun i j hi hj => ih i j hi hj _ (g7 i j hi hj)) g8
    | ref _ _ hr => exact hr.elim
  | ip cs b off vs h1 h2 _ ih =>
    intro v2 g
    cases g with
    | ip _ b' off' vs' g1 g2 g3 => exact .ip cs b' off' vs' g1 g2 (fun j hj => ih j hj _ (g3 j hj))
    | ref _ _ hr => exact hr.elim
  | agg cs vs h1 _ ih =>
    intro v2 g
    obtain ⟨vs', rfl, g1, g2⟩ := R_agg g
    exact .agg cs vs' g1 (fun j hj => ih j hj _ (g2 j hj))
  | tup cs vs h1 _ ih =>
    intro v2 g
    obtain ⟨vs', rfl, g1, g2⟩ := R_tup g
    exact .tup cs vs' g1 (fun j hj => ih j hj _ (g2 j hj))
  | fn f cs vs h1 _ ih =>
    intro v2 g
    obtain ⟨vs', rfl, g1, g2⟩ := R_fn g
    exact .fn f cs vs' g1 (fun j hj => ih j hj _ (g2 j hj))
  | ref a v hr =>
    intro v2 g
    cases a <;> first | exact hr.elim | skip
    all_goals
      cases g with
      | ref _ _ g => exact .ref _ _ (hE _ _ _ hr g)

theorem E_back {e e' : Env} {h h' : Hp} (hc : ∀ L, h.con L = .none ∨ h'.con L = h.con L) (a : AV) (v1 v2 : Value) (h1 : e.E h a v1) (h2 : e'.E h' a v2) : e'.E h a v2 := by
  have live : ∀ L, (h.con L).live → (h'.con L).live := fun L hl => by
    rcases hc L with hn | hn
    · rw [hn] at hl; exact hl.elim
    · rw [hn]; exact hl
  cases a with
  | pt L sz i j => exact ⟨h1.1, h2.2.1, fun hl => h2.2.2 (live L hl)⟩
  | os L => exact ⟨h1.1, h2.2.1, fun hl => h2.2.2 (live L hl)⟩
  | sl L sz a n => exact ⟨h1.1, h2.2.1, fun hl => h2.2.2 (live L hl)⟩
  | mr L => exact ⟨h1.1, h2.2.1, fun hl => h2.2.2 (live L hl)⟩
  | yl L => exact ⟨h1.1, h2.2⟩
  | _ => exact h1.elim

theorem has_back {e' : Env} {h h' : Hp} (hc : ∀ L, h.con L = .none ∨ h'.con L = h.con L) (hcnt : ∀ f s, h.cnt f s ≤ h'.cnt f s) {L : Lab} (hL : e'.has h L) : e'.has h' L := by
  obtain ⟨hk, hm⟩ := hL
  refine ⟨Nat.lt_of_lt_of_le hk (hcnt _ _), ?_⟩
  rcases hc L with hn | hn
  · rw [hn] at hm; exact hm.elim
  · rw [hn]; exact hm

theorem HRel.back {w w' : World} {B B' : Nat → Prop} {e e' : Env} {h h' : Hp} (hh : HRel w B e h) (hh' : HRel w' B' e' h') (x : Ext w B e h w' B' e' h') (hc : ∀ L, h.con L = .none ∨ h'.con L = h.con L) : HRel w' B' e' h := by
  have hr : ∀ {a v1 v2}, R w B (e.E h) a v1 → R w' B' (e'.E h') a v2 → R w' B' (e'.E h) a v2 := fun g1 g2 => R.restore (E_back hc) g1 _ g2
  refine ⟨fun L hk => ?_, fun M M' hM hM' hb => hh'.inj _ _ (has_back hc x.cnt hM) (has_back hc x.cnt hM') hb, hh'.bnd, fun i => ⟨(hh.glb i).1, (hh.glbX x i).2⟩⟩
  have hcon := hh.con L hk
  have hcon' := hh'.con L (Nat.lt_of_lt_of_le hk (x.cnt _ _))
  obtain ⟨e1, e2⟩ := x.env L hk
  rcases hc L with hn | hn
  · rw [hn]; trivial
  · rw [hn] at hcon'
    cases hcc : h.con L with
    | none => trivial
    | blk cs =>
      rw [hcc] at hcon hcon'
      obtain ⟨_, _, vs, T, _, _, g1⟩ := hcon
      obtain ⟨p1, p2, vs', T', p3, p4, g2⟩ := hcon'
      exact ⟨p1, p2, vs', T', p3, p4, fun j hj => hr (g1 j hj) (g2 j hj)⟩
    | bt T cs =>
      rw [hcc] at hcon hcon'
      obtain ⟨_, _, vs, _, _, g1⟩ := hcon
      obtain ⟨p1, p2, vs', p3, p4, g2⟩ := hcon'
      exact ⟨p1, p2, vs', p3, p4, fun j hj => hr (g1 j hj) (g2 j hj)⟩
    | ba T bs =>
      rw [hcc] at hcon'
      exact hcon'
    | gl cs =>
      rw [hcc] at hcon hcon'
      obtain ⟨_, _, vs, T, f, _, _, g1⟩ := hcon
      obtain ⟨p1, p2, vs', T', f', p3, p4, g2⟩ := hcon'
      exact ⟨p1, p2, vs', T', f', p3, p4, fun j hj => hr (g1 j hj) (g2 j hj)⟩
    | arr sz xs =>
      rw [hcc] at hcon hcon'
      obtain ⟨a, cap, q1, q2, q3, q4⟩ := hcon
      obtain ⟨a', cap', p1, p2, p3, p4⟩ := hcon'
      refine ⟨a', cap', p1, p2, p3, ?_⟩
      rcases p4 with p4 | ⟨p4, p5, p6, vs', T', p7, p8, p9⟩
      · exact .inl p4
      · rw [e2, q1] at p1
        injection p1 with _ _ hcap
        rcases q4 with q4 | ⟨_, _, _, vs, T, _, _, q9⟩
        · exact .inl (by omega)
        · exact .inr ⟨p4, p5, p6, vs', T', p7, p8, fun i j hi hj => ⟨hr (q9 i j hi hj).1 (p9 i j hi hj).1, (p9 i j hi hj).2⟩⟩
    | lp sl n ps asg bd s =>
      rw [hcc] at hcon hcon'
      obtain ⟨_, r, _, _, _, _, _, g1, _⟩ := hcon
      obtain ⟨p1, r', p2, p3, p4, p5, p6, g2, p7⟩ := hcon'
      exact ⟨p1, r', p2, p3, p4, p5, p6, fun i => hr (g1 i) (g2 i), p7⟩
    | mp es ck =>
      rw [hcc] at hcon hcon'
      obtain ⟨_, ents, _, _, g1⟩ := hcon
      obtain ⟨p1, ents', p2, p3, g2⟩ := hcon'
      exact ⟨p1, ents', p2, p3, fun j hj => ⟨hr (g1 j hj).1 (g2 j hj).1, hr (g1 j hj).2.1 (g2 j hj).2.1, (g2 j hj).2.2⟩⟩

theorem Ext.back {w w' : World} {B B' : Nat → Prop} {e e' : Env} {h h' : Hp} (x : Ext w B e h w' B' e' h') (hc : ∀ L, h.con L = .none ∨ h'.con L = h.con L) : Ext w B e h w' B' e' h where
  size := x.size
  os := x.os
  tape := x.tape
  output := x.output
  bsub := x.bsub
  bnew := x.bnew
  keep := x.keep
  onew L hL := x.onew L (has_back hc x.cnt hL)
  cnt _ _ := Nat.le_refl _
  env := x.env
  live _ _ h := h


mutual
/-- A value in which label L, which holds c, is read aas what c says. -/
def AV.frz (L : Lab) (c : Con) : AV → AV
  | .os M => if M = L then (match c with | .arr sz xs => .l false sz xs | _ => .os M) else .os M
  | .sl M sz a n => if M = L then (match c with | .arr sz' xs => if sz' = sz ∧ a + n ≤ xs.length then .l false sz ((xs.drop a).take n) else .sl M sz a n | _ => .sl M sz a n) else .sl M sz a n
  | .pt M sz i j => if M = L then (match c with | .blk cs => if i = 0 then .ip (cs.drop j) else .pt M sz i j | _ => .pt M sz i j) else .pt M sz i j
  | .l ex sz xs => .l ex sz (AV.frzs L c xs)
  | .ip cs => .ip (AV.frzs L c cs)
  | .agg cs => .agg (AV.frzs L c cs)
  | .tup cs => .tup (AV.frzs L c cs)
  | .fn f cs => .fn f (AV.frzs L c cs)
  | v => v
def AV.frzs (L : Lab) (c : Con) : List AV → List AV
  | [] => []
  | x :: r => AV.frz L c x :: AV.frzs L c r
end
theorem frzs_map (L : Lab) (c : Con) : ∀ xs, AV.frzs L c xs = xs.map (AV.frz L c) := by
  intro xs
  induction xs with
  | nil => rfl
  | cons x r ih => simp [AV.frzs, ih]
theorem frz_cells (L : Lab) (c : Con) (a : AV) : (a.frz L c).cells = a.cells.map (AV.frz L c) := by
  cases a with
  | agg cs => simp [AV.frz, AV.cells, frzs_map]
  | os M =>
    by_cases hM : M = L
    · cases c <;> simp [AV.frz, AV.cells, hM]
    · simp [AV.frz, AV.cells, hM]
  | sl M sz a n =>
    by_cases hM : M = L
    · cases c with
      | arr sz' xs => by_cases hi : sz' = sz ∧ a + n ≤ xs.length <;> simp [AV.frz, AV.cells, hM, hi]
      | _ => simp [AV.frz, AV.cells, hM]
    · simp [AV.frz, AV.cells, hM]
  | pt M sz i j =>
    by_cases hM : M = L
    · cases c with
      | blk cs => by_cases hi : i = 0 <;> simp [AV.frz, AV.cells, hM, hi]
      | _ => simp [AV.frz, AV.cells, hM]
    · simp [AV.frz, AV.cells, hM]
  | _ => simp [AV.frz, AV.cells]
theorem frz_undef (L : Lab) (c : Con) : AV.undef.frz L c = .undef := by simp [AV.frz]
theorem frz_getD (L : Lab) (c : Con) (l : List AV) (j : Nat) : (l.map (AV.frz L c)).getD j .undef = (l.getD j .undef).frz L c := by
  simp only [List.getD_eq_getElem?_getD, List.getElem?_map]
  cases l[j]? <;> simp [frz_undef]

section
variable {w : World} {B : Nat → Prop} {e : Env} {h : Hp} {L : Lab}
/-- The blocks that don't turn any more, L's too. -/
def frzB (B : Nat → Prop) (e : Env) (h : Hp) (L : Lab) (b : Nat) : Prop := B b ∨ (e.has h L ∧ b = (e.β L).block)

theorem set_none_con (M : Lab) : (h.set L .none).con M = if M = L then .none else h.con M := by
  simp only [Hp.set]
  split
  · cases h.con L <;> rfl
  · rfl
theorem drop_none (M : Lab) : (h.set L .none).con M = .none ∨ (h.set L .none).con M = h.con M := by
  rw [set_none_con]
  by_cases hE : M = L
  · rw [if_pos hE]; exact .inl rfl
  · rw [if_neg hE]; exact .inr rfl
theorem E_frz {a : AV} {v : Value} (hE : e.E h a v) : e.E (h.set L .none) a v := by
  have live : ∀ M, ((h.set L .none).con M).live → (h.con M).live := fun M hl => by
    rcases drop_none (h := h) (L := L) M with h1 | h1
    · rw [h1] at hl; exact hl.elim
    · rwa [h1] at hl
  cases a with
  | pt M sz i j => exact ⟨hE.1, hE.2.1, fun hl => hE.2.2 (live M hl)⟩
  | os M => exact ⟨hE.1, hE.2.1, fun hl => hE.2.2 (live M hl)⟩
  | sl M sz a n => exact ⟨hE.1, hE.2.1, fun hl => hE.2.2 (live M hl)⟩
  | mr M => exact ⟨hE.1, hE.2.1, fun hl => hE.2.2 (live M hl)⟩
  | yl M => exact hE
  | _ => exact hE.elim
theorem R_keep {a : AV} {v : Value} (hR : R w B (e.E h) a v) : R w (frzB B e h L) (e.E (h.set L .none)) a v :=
  hR.mono (fun _ _ => rfl) (fun _ hb => .inl hb) (fun _ _ => E_frz)

theorem R_frz (hh : HRel w B e h) {a : AV} {v : Value} (hR : R w B (e.E h) a v) : R w (frzB B e h L) (e.E (h.set L .none)) (a.frz L (h.con L)) v := by
  induction hR with
  | undef v => exact .undef v
  | un => exact .un
  | int k n => exact .int k n
  | bool b => exact .bool b
  | str s => exact .str s
  | nilp => exact .nilp
  | nilf => exact .nilf
  | nilm => exact .nilm
  | l0 ex sz a c hx => exact .l0 ex sz a c hx
  | l ex sz xs b off cap vs h1 h2 h3 h4 h5 h6 h7 h8 ih =>
    simp only [AV.frz, frzs_map]
    have := R.l (E := e.E (h.set L .none)) (w := w) (B := frzB B e h L) ex sz (xs.map (AV.frz L (h.con L))) b off cap vs (by simpa using h1) (by simpa using h2) (by simpa using h3) (.inl h4)
      (fun i hi => by simp only [List.getElem_map, frz_cells, List.length_map]; exact h5 i (by simpa using hi))
      (fun i j hi hj => h6 i j (by simpa using hi) hj)
      (fun i j hi hj => by simp only [List.getElem_map, frz_cells, frz_getD]; exact ih i j (by simpa using hi) hj)
      (fun i j hi hj => h8 i j (by simpa using hi) hj)
    simpa using this
  | ip cs b off vs h1 h2 h3 ih =>
    simp only [AV.frz, frzs_map]
    exact .ip _ b off vs (.inl h1) (fun j hj => h2 j (by simpa using hj)) (fun j hj => by rw [frz_getD]; exact ih j (by simpa using hj))
  | agg cs vs h1 h2 ih =>
    simp only [AV.frz, frzs_map]
    exact .agg _ vs (by simpa using h1) (fun j hj => by rw [frz_getD]; exact ih j (by simpa using hj))
  | tup cs vs h1 h2 ih =>
    simp only [AV.frz, frzs_map]
    exact .tup _ vs (by simpa using h1) (fun j hj => by rw [frz_getD]; exact ih j (by simpa using hj))
  | fn f cs vs h1 h2 ih =>
    simp only [AV.frz, frzs_map]
    exact .fn f _ vs (by simpa using h1) (fun j hj => by rw [frz_getD]; exact ih j (by simpa using hj))
  | ref a v hE =>
    have plain : R w (frzB B e h L) (e.E (h.set L .none)) a v := .ref _ _ (E_frz hE)
    cases a with
    | os M =>
      simp only [AV.frz]
      split
      · rename_i hM; subst hM
        split
        · rename_i sz xs hcon
          have hk := hE.1
          have hc := hh.con _ hk
          rw [hcon] at hc
          obtain ⟨a', cap, g1, g2, g3, g4⟩ := hc
          have hv := hE.2.2 (by rw [hcon]; trivial)
          rw [hv, g1]
          by_cases hx : xs = []
          · subst hx; exact .l0 _ _ _ _ (fun hf => by simp at hf)
          have hlen : 0 < xs.length := List.length_pos_iff.2 hx
          rcases g4 with g4 | ⟨ga, gs, gB, vs, T, gb, gsz, gr⟩
          · omega
          have hβ : e.β M = ⟨(e.β M).block, (e.β M).off, .none⟩ := by rw [← gs]
          rw [ga, hβ]
          refine .l false sz xs _ _ cap (fun i j => vs.getD ((e.β M).off + (i * sz + j)) undef) hx (fun hf => by simp at hf) g2 (.inr ⟨⟨hk, ?_⟩, rfl⟩) g3 (fun i j hi hj => ?_) (fun i j hi hj => R_keep (gr i j hi hj).1) (fun i j hi hj => (gr i j hi hj).2)
          · rw [hcon]; exact ⟨a', xs.length, cap, g1, by omega⟩
          · refine getD_row gb ?_
            have : (i + 1) * sz ≤ cap * sz := Nat.mul_le_mul_right _ (by omega)
            rw [Nat.add_mul] at this
            omega
        · exact plain
      · exact plain
    | pt M sz i j =>
      simp only [AV.frz]
      split
      · rename_i hM; subst hM
        split
        · rename_i cs hcon
          split
          · rename_i hi; subst hi
            have hk := hE.1
            have hc := hh.con _ hk
            rw [hcon] at hc
            obtain ⟨gB, goff, vs, T, gb, gsz, gr⟩ := hc
            have hv := hE.2.2 (by rw [hcon]; trivial)
            rw [hv]
            refine .ip _ _ _ (fun x => vs.getD (j + x) undef) (.inr ⟨⟨hk, by rw [hcon]; trivial⟩, rfl⟩) (fun x hx => ?_) (fun x hx => ?_)
            · simp only [List.length_drop] at hx
              rw [goff, Nat.zero_add, Nat.zero_mul, Nat.zero_add]
              exact getD_row gb (by omega)
            · simp only [List.length_drop] at hx
              have e1 : (cs.drop j).getD x .undef = cs.getD (j + x) .undef := by simp
              rw [e1]
              exact R_keep (gr (j + x) (by omega))
          · exact plain
        · exact plain
      · exact plain
    | sl M sz a0 n0 =>
      simp only [AV.frz]
      split
      · rename_i hM; subst hM
        split
        · rename_i sz' xs hcon
          split
          · rename_i hcnd
            obtain ⟨rfl, hle⟩ := hcnd
            have hk := hE.1
            have hc := hh.con _ hk
            rw [hcon] at hc
            obtain ⟨a', cap, g1, g2, g3, g4⟩ := hc
            obtain ⟨p, m, c, q, q1, q2, q3, q4⟩ := hE.2.2 (by rw [hcon]; trivial)
            rw [g1] at q1
            injection q1 with e1 e2 e3
            subst e1; subst e2; subst e3
            have hl : ((xs.drop a0).take n0).length = n0 := by simp; omega
            by_cases hn0 : n0 = 0
            · subst hn0
              rw [q3, List.take_zero]; exact .l0 _ _ _ _ (fun hf => by simp at hf)
            rcases g4 with g4 | ⟨ga, gs, gB, vs, T, gb, gsz, gr⟩
            · omega
            have hβ : e.β M = ⟨(e.β M).block, (e.β M).off, .none⟩ := by rw [← gs]
            have q4 := q4 (by omega)
            rw [ga, hβ] at q4
            simp only [Option.map_some, addr_add] at q4
            rw [q3, q4]
            have hg : ∀ i (hi : i < ((xs.drop a0).take n0).length), ((xs.drop a0).take n0)[i] = xs[a0 + i]'(by omega) := by
              intro i hi; simp
            have off : ∀ i j, (e.β M).off + a0 * sz' + (i * sz' + j) = (e.β M).off + ((a0 + i) * sz' + j) := fun i j => by rw [Nat.add_mul]; omega
            have := R.l (w := w) (B := frzB B e h M) (E := e.E (h.set M .none)) false sz' ((xs.drop a0).take n0) (e.β M).block ((e.β M).off + a0 * sz') (cap - a0) (fun i j => vs.getD ((e.β M).off + ((a0 + i) * sz' + j)) undef)
              (by intro h0; rw [h0] at hl; simp at hl; omega) (fun hf => by simp at hf) (by omega) (.inr ⟨⟨hk, by rw [hcon]; exact ⟨a', xs.length, cap, g1, by omega⟩⟩, rfl⟩)
              (fun i hi => by rw [hg i hi]; exact g3 _ _) (fun i j hi hj => by
                rw [off]
                refine getD_row gb ?_
                have : (a0 + i + 1) * sz' ≤ cap * sz' := Nat.mul_le_mul_right _ (by omega)
                rw [Nat.add_mul] at this
                omega) (fun i j hi hj => by rw [hg i hi]; exact R_keep (gr (a0 + i) j (by omega) hj).1) (fun i j hi hj => (gr (a0 + i) j (by omega) hj).2)
            rw [hl] at this
            exact this
          · exact plain
        · exact plain
      · exact plain
    | mr M => exact plain
    | yl M => exact plain
    | _ => exact hE.elim

theorem has_frz {M : Lab} (hM : e.has (h.set L .none) M) : M ≠ L ∧ e.has h M := by
  obtain ⟨hk, hm⟩ := hM
  have hne : M ≠ L := fun hE => by
    rw [set_none_con, if_pos hE] at hm; exact hm
  refine ⟨hne, hk, ?_⟩
  rw [set_none_con, if_neg hne] at hm
  exact hm
theorem HRel_frz (hh : HRel w B e h) : HRel w (frzB B e h L) e (h.set L .none) := by
  refine ⟨fun M hk => ?_, fun M M' hM hM' hb => hh.inj _ _ (has_frz hM).2 (has_frz hM').2 hb, fun b hb => ?_, hh.glb⟩
  · have hcon := hh.con M hk
    rw [set_none_con]
    by_cases hE : M = L
    · rw [if_pos hE]; trivial
    rw [if_neg hE]
    have nb : e.has h M → ¬ B (e.β M).block → ¬ frzB B e h L (e.β M).block := fun hM hB hb => by
      rcases hb with hb | ⟨hL, hb⟩
      · exact hB hb
      · exact hE (hh.inj _ _ hM hL hb)
    cases hc : h.con M with
    | none => trivial
    | blk cs =>
      rw [hc] at hcon
      obtain ⟨p1, p2, vs, T, p3, p4, p5⟩ := hcon
      exact ⟨nb ⟨hk, by rw [hc]; trivial⟩ p1, p2, vs, T, p3, p4, fun j hj => R_keep (p5 j hj)⟩
    | bt T cs =>
      rw [hc] at hcon
      obtain ⟨p1, p2, vs, p3, p4, p5⟩ := hcon
      exact ⟨nb ⟨hk, by rw [hc]; trivial⟩ p1, p2, vs, p3, p4, fun j hj => R_keep (p5 j hj)⟩
    | ba T bs =>
      rw [hc] at hcon
      obtain ⟨p1, p2⟩ := hcon
      exact ⟨nb ⟨hk, by rw [hc]; trivial⟩ p1, p2⟩
    | gl cs =>
      rw [hc] at hcon
      obtain ⟨p1, p2, vs, T, f, p3, p4, p5⟩ := hcon
      exact ⟨.inl p1, p2, vs, T, f, p3, p4, fun j hj => R_keep (p5 j hj)⟩
    | arr sz xs =>
      rw [hc] at hcon
      obtain ⟨a, cap, p1, p2, p3, p4⟩ := hcon
      refine ⟨a, cap, p1, p2, p3, ?_⟩
      by_cases h0 : cap = 0
      · exact .inl h0
      rcases p4 with p4 | ⟨p4, p5, p6, vs, T, p7, p8, p9⟩
      · exact .inl p4
      · exact .inr ⟨p4, p5, nb ⟨hk, by rw [hc]; exact ⟨_, _, _, p1, h0⟩⟩ p6, vs, T, p7, p8, fun i j hi hj => ⟨R_keep (p9 i j hi hj).1, (p9 i j hi hj).2⟩⟩
    | lp sl n ps asg bd s =>
      rw [hc] at hcon
      obtain ⟨p1, r, p2, p3, p4, p5, p6, p7, p8⟩ := hcon
      exact ⟨nb ⟨hk, by rw [hc]; trivial⟩ p1, r, p2, p3, p4, p5, p6, fun i => R_keep (p7 i), p8⟩
    | mp es ck =>
      rw [hc] at hcon
      obtain ⟨p1, ents, p2, p3, p4⟩ := hcon
      exact ⟨nb ⟨hk, by rw [hc]; trivial⟩ p1, ents, p2, p3, fun j hj => ⟨R_keep (p4 j hj).1, R_keep (p4 j hj).2.1, (p4 j hj).2.2⟩⟩
  · rcases hb with hb | ⟨hL, hb⟩
    · exact hh.bnd b hb
    · subst hb
      have hcon := hh.con L hL.1
      have hm := hL.2
      have lt : ∀ {o : Obj}, w.heap[(e.β L).block]? = some o → (e.β L).block < w.heap.size := fun ho => (Array.getElem?_eq_some_iff.1 ho).1
      cases hc : h.con L with
      | none => rw [hc] at hm; exact hm.elim
      | blk cs =>
        rw [hc] at hcon
        obtain ⟨_, _, vs, T, p3, _⟩ := hcon
        exact lt p3
      | arr sz xs =>
        rw [hc] at hcon hm
        obtain ⟨a, cap, p1, p2, p3, p4⟩ := hcon
        obtain ⟨a', n', c', q1, q2⟩ := hm
        rcases p4 with p4 | ⟨_, _, _, vs, T, p7, _⟩
        · rw [p1] at q1; injection q1 with _ _ q3; omega
        · exact lt p7
      | lp sl n ps asg bd s =>
        rw [hc] at hcon
        obtain ⟨_, r, p2, _⟩ := hcon
        exact lt p2
      | mp es ck =>
        rw [hc] at hcon
        obtain ⟨_, ents, p2, _⟩ := hcon
        exact lt p2
      | bt T cs =>
        rw [hc] at hcon
        obtain ⟨_, _, vs, p2, _⟩ := hcon
        exact lt p2
      | gl cs => rw [hc] at hm; exact hm.elim
      | ba T bs =>
        rw [hc] at hcon
        obtain ⟨_, _, _, p2, _⟩ := hcon
        exact lt p2
theorem Ext_frz : Ext w B e h w (frzB B e h L) e (h.set L .none) where
  size := Nat.le_refl _
  os := rfl
  tape := rfl
  output := rfl
  bsub _ hb := .inl hb
  bnew b hb := by
    rcases hb with hb | ⟨hL, hb⟩
    · exact .inl hb
    · exact .inr (.inl ⟨L, hL, hb.symm⟩)
  keep _ _ _ := rfl
  onew M hM := .inl ⟨M, (has_frz hM).2, rfl⟩
  cnt _ _ := Nat.le_refl _
  env _ _ := ⟨rfl, rfl⟩
  live M _ hl := by
    rcases drop_none (h := h) (L := L) M with h1 | h1
    · rw [h1] at hl; exact hl.elim
    · rwa [h1] at hl
end


/-- What was made for an append to an empty literal is taken for a value at once. -/
theorem frzA_sound {P : Program} {w : World} {B : Nat → Prop} {e : Env} {h : Hp} (hh : HRel w B e h) {t u ty : TypeId} {x y : AV} {vx vy : Value} (hx : R w B (e.E h) x vx) (hy : R w B (e.E h) y vy) {K : AV → Prop}
    (hK : frzA P (tk P t) (tk P u) h x y K) :
    ∃ w' v B' e' av, (Builtin.append_ #[t, u] ty #[vx, vy]).run P w = .ok v w' ∧ HRel w' B' e' h ∧ Ext w B e h w' B' e' h ∧ R w' B' (e'.E h) av v ∧ K av := by
  unfold frzA at hK
  split at hK
  · rename_i el el' ht hu
    obtain ⟨hel, hK⟩ := hK
    unfold appendY at hK
    split at hK
    · rename_i sz' ys hey
      obtain ⟨hszy, hK⟩ := hK
      unfold frzX at hK
      split at hK
      · rename_i sz0
        obtain ⟨hb, hn, hpos, hK⟩ := hK
        obtain ⟨py, cy, rfl, _, hrowy⟩ := elems_sound hh hy hey
        have hap : appendK h 0 0 (tsz P el) (tbytes P el) (.l true sz0 []) y (fun av h' => av = .os (h.fresh 0 0) ∧ h' = h.alloc 0 0 (.arr (tsz P el) ys)) := by
          unfold appendK appendY; rw [hey]; exact ⟨hszy, hb, hn, hpos, rfl, rfl⟩
        obtain ⟨w', v, h', e', av, q1, q2, q3, q4, rfl, rfl⟩ := appendK_sound (ty := ty) hh ht hu hel hx hy 0 0 hap
        have f1 := HRel_frz (L := h.fresh 0 0) q2
        have f2 := R_frz (L := h.fresh 0 0) q2 q4
        have f3 : Ext w' B e' (h.alloc 0 0 (.arr (tsz P el) ys)) w' (frzB B e' (h.alloc 0 0 (.arr (tsz P el) ys)) (h.fresh 0 0)) e' ((h.alloc 0 0 (.arr (tsz P el) ys)).set (h.fresh 0 0) .none) := Ext_frz
        have x3 := q3.trans f3
        have hnone : h.con (h.fresh 0 0) = .none := h.ok _ (by simp [Hp.fresh])
        have hc : ∀ L, h.con L = .none ∨ ((h.alloc 0 0 (.arr (tsz P el) ys)).set (h.fresh 0 0) .none).con L = h.con L := fun L => by
          by_cases hL : L = h.fresh 0 0
          · left; rw [hL, hnone]
          · right
            rw [set_none_con, if_neg hL]
            exact alloc_con_ne hL
        rw [alloc_con_eq] at f2
        simp only [AV.frz, if_true] at f2
        refine ⟨w', v, _, e', .l false (tsz P el) ys, q1, hh.back f1 x3 hc, x3.back hc, ?_, hK⟩
        obtain ⟨a, cap, rfl, _, hle, hr⟩ := R_l f2
        by_cases hys : ys = []
        · subst hys; exact .l0 _ _ _ _ (fun hf => by simp at hf)
        · obtain ⟨b, off, vs, rfl, hB, r1, r2, r3, r4⟩ := hr hys
          obtain ⟨_, _, us, _, _, _, u3, _⟩ := hrowy hys
          refine .l false _ ys b off cap vs hys (fun hf => by simp at hf) hle hB r1 r2 (fun i j hi hj => ?_) r4
          exact R.restore (E_back hc) (u3 i j hi (by rw [hszy hys]; exact hj)) _ (r3 i j hi hj)
      · exact hK.elim
    · exact hK.elim
  · exact hK.elim
theorem Nx.pure' {P : Program} {w0 : World} {B0 : Nat → Prop} {e0 : Env} {h0 : Hp} {n : Nat} {ds : List Deferred} {K : St → Prop} {o : Oper} {st : St} {a : Act} {w : World} {B : Nat → Prop} {e : Env}
    (hr : Rel w B e n st a) (hx : Ext w0 B0 e0 h0 w B e st.hp) (hds : a.defers = ds) (hd : ∀ x, o.dst = some x → x < n) (hK : frzO P o.op st (fun v => K (st.put o.dst v))) :
    Fin P w0 B0 e0 h0 n ds K o.dst a ((execOp a.eval o).run P w) := by
  obtain ⟨d, op, ty, ps, af, g⟩ := o
  simp only at hK hd ⊢
  unfold frzO at hK
  split at hK
  · rename_i args ats
    unfold frzL at hK
    split at hK
    · rename_i x y t u hx' ht
      obtain rfl : ats = #[t, u] := by rw [← Array.toArray_toList (xs := ats), ht]
      obtain ⟨a0, a1, rfl, rfl, rfl⟩ := two_args hx'
      obtain ⟨w', v, B', e', av, h1, h2, h3, h4, h5⟩ := frzA_sound (ty := ty) hr.hp (ev_R hr a0) (ev_R hr a1) hK
      unfold execOp
      have hrun : (do let d ← resolve a.eval { callee := .builtin .append, args := #[a0, a1], argTypes := #[t, u] } ty; invoke d.target d.args : Sem Next).run P w = .ok (.value v) w' := by
        simp [resolve, invoke, builtin, h1]
      rw [hrun]
      exact Nx.heap (h' := st.hp) hr hx hds hd h2 h3 h4 h5
    · exact hK.elim
  · exact hK.elim
end Go.T
/- Rows of bytes whose type is kept in mind: append to them. -/
namespace Go.T
open Go
set_option linter.unusedSimpArgs false
section
variable {w : World} {B : Nat → Prop} {e : Env} {h : Hp} {L : Lab}
def byteC (bs : List UInt8) : List Value := bs.map fun b => Value.int .u8 b.toNat
theorem bytesL_at (bs : List UInt8) (i : Nat) (hi : i < (bytesL bs).length) : (bytesL bs)[i] = .int .u8 (bs.getD i 0).toNat := by
  have : i < bs.length := by simpa [bytesL] using hi
  simp [bytesL, this]
/-- The type forgotten. -/
theorem HRel.weak (hh : HRel w B e h) {T : TypeId} {bs : List UInt8} (hc : h.con L = .ba T bs) (hk : L.k < h.cnt L.f L.s) (h0 : bs ≠ []) :
    HRel w B e (h.set L (.arr 1 (bytesL bs))) ∧ Ext w B e h w B e (h.set L (.arr 1 (bytesL bs))) := by
  have hL : e.has h L := ⟨hk, by rw [hc]; trivial⟩
  have hlive : (h.con L).live := by rw [hc]; trivial
  have hcon := hh.con L hk
  rw [hc] at hcon
  obtain ⟨p1, cap, cur, p2, ⟨p3, p3'⟩, p4, p5, p6, p7⟩ := hcon
  have hpos : 0 < bs.length := List.length_pos_iff.2 h0
  have hl : (bytesL bs).length = bs.length := by simp [bytesL]
  have hat : ∀ i, i < bs.length → cur.getD i undef = .int .u8 (bs.getD i 0).toNat := fun i hi => by
    have h1 : (cur.toList.take (bs.length * 1))[i]? = (byteC bs)[i]? := by rw [p7]; rfl
    rw [List.getElem?_take_of_lt (by omega)] at h1
    have h2 : i < cur.size := by omega
    simp [byteC, hi, h2] at h1
    simp [h1, hi, h2]
  have x := Ext.write (w := w) (w' := w) (B := B) (c := .arr 1 (bytesL bs)) hL hlive rfl rfl rfl rfl (fun _ _ => rfl)
  refine ⟨HRel.write hh hL hlive rfl rfl rfl rfl (fun _ _ => rfl) ⟨hk, by rw [set_con_eq hlive]; exact ⟨_, _, _, p3, by omega⟩⟩ ?_, x⟩
  refine ⟨_, cap, by rw [hl]; exact p3, by rw [hl]; exact p4, fun i hi => by rw [bytesL_at]; rfl, .inr ⟨by rw [p3'], by rw [p3'], p1, cur, T, p2, by rw [p3']; simp only; omega, fun i j hi hj => ?_⟩⟩
  have hj0 : j = 0 := by omega
  subst hj0
  rw [bytesL_at, p3']
  rw [hl] at hi
  simp only [AV.cells, List.getD_cons_zero, Nat.zero_add, Nat.mul_one, Nat.add_zero]
  rw [hat i hi]
  exact ⟨.int _ _, rfl⟩
/-- The type known. -/
theorem HRel.strong (hh : HRel w B e h) {T : TypeId} {bs : List UInt8} (hc : h.con L = .arr 1 (bytesL bs)) (hk : L.k < h.cnt L.f L.s) (h0 : bs ≠ []) (ho : w.ownsRow 0 T 1 (e.η L) bs.length (byteC bs)) :
    HRel w B e (h.set L (.ba T bs)) ∧ Ext w B e h w B e (h.set L (.ba T bs)) := by
  have hcon := hh.con L hk
  rw [hc] at hcon
  obtain ⟨a, cap, p1, p2, p3, p4⟩ := hcon
  have hpos : 0 < bs.length := List.length_pos_iff.2 h0
  have hl : (bytesL bs).length = bs.length := by simp [bytesL]
  rw [hl] at p1 p2
  rcases p4 with p4 | ⟨p4, p5, p6, vs, T', p7, p8, p9⟩
  · omega
  have hL : e.has h L := ⟨hk, by rw [hc]; exact ⟨_, _, _, p1, by omega⟩⟩
  have hlive : (h.con L).live := by rw [hc]; trivial
  have x := Ext.write (w := w) (w' := w) (B := B) (c := .ba T bs) hL hlive rfl rfl rfl rfl (fun _ _ => rfl)
  refine ⟨HRel.write hh hL hlive rfl rfl rfl rfl (fun _ _ => rfl) ⟨hk, by rw [set_con_eq hlive]; trivial⟩ ?_, x⟩
  rcases ho.2 with ⟨_, q⟩ | ⟨g, cap', cur, q1, _, q3, q4, q5, q6, q7⟩
  · omega
  · rw [p1, p4] at q1
    injection q1 with r1 _ r3
    injection r1 with r1
    subst r3
    have hb : (e.β L).block = g := by rw [r1]
    exact ⟨p6, cap, cur, by rw [hb]; exact q3, ⟨by rw [p1, p4, r1], by rw [r1]⟩, q4, q5, q6, q7⟩
end
theorem btsE_parts {P : Program} {el : TypeId} (h : btsE P el = true) : tok P el = true ∧ tsz P el = 1 ∧ tbytes P el = 1 ∧ ∃ i, P.info? el = some i ∧ i.zero = some (.int .u8 0) ∧ i.size = 1 ∧ i.bytes = 1 := by
  unfold btsE at h
  simp only [Bool.and_eq_true, beq_iff_eq] at h
  obtain ⟨⟨⟨h1, h2⟩, h3⟩, h4⟩ := h
  refine ⟨h1, h2, h3, ?_⟩
  cases hi : P.info? el with
  | none => rw [hi] at h4; cases h4
  | some i =>
    rw [hi] at h4
    refine ⟨i, rfl, ?_, by simpa [tsz, hi] using h2, by simpa [tbytes, hi] using h3⟩
    simp only at h4
    split at h4
    · assumption
    · cases h4
/-- Bytes that are appended: as elements, and where they lie. -/
theorem btsY_sound {P : Program} {w : World} {B : Nat → Prop} {e : Env} {h : Hp} {t u el ty : TypeId} {i : TypeInfo} (ht : tk P t = .slice el) (hU : btsU (tk P u) t u) (hi : P.info? el = some i) (hz : i.zero = some (.int .u8 0)) (hs : i.size = 1) (hb : i.bytes = 1)
    {y : AV} {vy : Value} (hy : R w B (e.E h) y vy) {K : List UInt8 → Prop} (hK : btsY (tk P u) y K) :
    ∃ bs, UOk P u ∧ SrcAt P w B (e.E h) 1 (bytesL bs) vy ∧ K bs ∧ (tk P u = .string → ∃ s : ByteArray, vy = .string s ∧ s.data.toList = bs) ∧
      ∀ (v : Value) (cs : List UInt8), w.ownsRow 0 el 1 v cs.length (byteC cs) → cs.length + bs.length ≤ 2 ^ 47 → ∃ v' w', (Builtin.append_ #[t, u] ty #[v, vy]).run P w = .ok v' w' ∧ w'.ownsRow 0 el 1 v' (cs ++ bs).length (byteC (cs ++ bs)) := by
  have hml : (2 : Nat) ^ 47 ≤ maxLen := by decide
  unfold btsY at hK
  split at hK
  · rename_i s hu
    have := R_str hy
    subst this
    refine ⟨s.data.toList, UOk.string hu, ?_, hK, fun _ => ⟨s, rfl, rfl⟩, fun v cs ho hl => ?_⟩
    · exact SrcAt.str s
    · have hsz : s.data.toList.length = s.size := by simp
      rw [hsz] at hl
      obtain ⟨v', w', h1, h2, _⟩ := Lib.run_append_own_string (P := P) w 0 t u ty el i (tk_slice ht) (tk_string hu) hi hz hs hb v cs.length (byteC cs) ho s (by omega) (by omega) (Nat.zero_le _)
      refine ⟨v', w', h1, ?_⟩
      rw [List.length_append, hsz]
      have : byteC (cs ++ s.data.toList) = byteC cs ++ Lib.strCells s := by simp [byteC, Lib.strCells]
      rw [this]; exact h2
  · rename_i ex n hu
    obtain ⟨b, rfl, hK⟩ := hK
    unfold btsU at hU
    rw [hu] at hU
    simp only at hU
    subst hU
    obtain ⟨a, cap, rfl, _, hle, hr⟩ := R_l hy
    obtain ⟨bk, off, vs, rfl, hB, r1, r2, r3, r4⟩ := hr (by simp)
    have hrow : RowAt w B (e.E h) 1 (bytesL [b]) (some ⟨bk, off, none⟩) := fun _ => ⟨bk, off, vs, rfl, r1, r2, r3, r4⟩
    refine ⟨[b], UOk.slice hu, SrcAt.row hrow cap, hK, (fun hc => by rw [hu] at hc; cases hc), fun v cs ho hl => ?_⟩
    have hv0 : vs 0 0 = .int .u8 b.toNat := by
      have := r3 0 0 (by simp) (by omega)
      simp only [List.getElem_cons_zero, AV.cells, List.getD_cons_zero] at this
      exact R_int this
    have hc0 : w.cell? ⟨bk, off, none⟩ = some (.int .u8 b.toNat) := by
      have := r2 0 0 (by simp) (by omega)
      rw [hv0] at this
      simpa using this
    obtain ⟨v', w', h1, h2, _⟩ := run_append_own (P := P) (w := w) 0 t ty el i (.int .u8 0) 1 1 (tk_slice ht) hi hz hs hb rfl (by decide) v cs.length (byteC cs) ho ⟨bk, off, none⟩ 1 cap [.int .u8 b.toNat] rfl (by
      intro j x hj
      match j, hj with
      | 0, hj => simp at hj; subst hj; simpa [Addr.add] using hc0) (by intro x hx; simp at hx; subst hx; rfl) (by simp at hl; omega) (by simp at hl; omega) (Nat.zero_le _)
    refine ⟨v', w', h1, ?_⟩
    have : byteC (cs ++ [b]) = byteC cs ++ [.int .u8 b.toNat] := by simp [byteC]
    rw [this]
    simpa using h2
  · exact hK.elim
theorem owns_new {w : World} {el : TypeId} {s : ByteArray} {cap : Nat} {tail : Array Value} (ht : tail.size = cap - s.size) (hcap : s.size ≤ cap) (hm : cap ≤ maxLen) :
    (w.drew.alloc (.cells ((Lib.strCells s).toArray ++ tail) el)).ownsRow 0 el 1 (.slice (some ⟨w.heap.size, 0, none⟩) s.size cap) s.size (Lib.strCells s) := by
  have hl : (Lib.strCells s).length = s.size := Lib.strCells_length s
  refine ⟨by rw [hl, Nat.mul_one], .inr ⟨w.heap.size, cap, _, rfl, Nat.zero_le _, heap_alloc_new w.drew _, hcap, hm, ?_, ?_⟩⟩
  · simp only [Array.size_append, List.size_toArray, hl, ht]; omega
  · rw [Array.toList_append, Nat.mul_one, ← hl]
    exact List.take_left
/-- **append to a row of bytes.** -/
theorem bts_sound {P : Program} {w : World} {B : Nat → Prop} {e : Env} {h : Hp} (hh : HRel w B e h) {t u el ty : TypeId} (ht : tk P t = .slice el) (hU : btsU (tk P u) t u) (hE : btsE P el = true)
    {x y : AV} {vx vy : Value} (hx : R w B (e.E h) x vx) (hy : R w B (e.E h) y vy) (f s : Nat) {K : AV → Hp → Prop} (hK0 : btsY (tk P u) y (fun bs => btsX h f s el (tk P u) x bs K)) :
    ∃ w' v h' e' av, (Builtin.append_ #[t, u] ty #[vx, vy]).run P w = .ok v w' ∧ HRel w' B e' h' ∧ Ext w B e h w' B e' h' ∧ R w' B (e'.E h') av v ∧ K av h' := by
  obtain ⟨htok, h1, h2, i, hi, hz, hs, hb⟩ := btsE_parts hE
  obtain ⟨bs, hUk, hsrc, hK, hstr, hrun⟩ := btsY_sound (ty := ty) ht hU hi hz hs hb hy hK0
  clear hK0
  have hbl : (bytesL bs).length = bs.length := by simp [bytesL]
  unfold btsX at hK
  split at hK
  · rename_i hu
    obtain ⟨k1, k2, hK⟩ := hK
    obtain ⟨sx, rfl, hsx⟩ := hstr hu
    have hX : appendX h f s (tsz P el) (tbytes P el) (.l true 0 []) (bytesL bs) (fun av h' => av = .os (h.fresh f s) ∧ h' = h.alloc f s (.arr 1 (bytesL bs))) := by
      unfold appendX
      rw [h1, h2, hbl]
      exact ⟨by omega, by omega, by decide, rfl, rfl⟩
    obtain ⟨w', v, h', e', av, q1, q2, q3, q4, rfl, rfl⟩ := appendX_sound (ty := ty) hh ht hUk htok hx (by rw [h1]; exact hsrc) f s hX
    have hcon : (h.alloc f s (.arr 1 (bytesL bs))).con (h.fresh f s) = .arr 1 (bytesL bs) := alloc_con_eq
    have hlt : (h.fresh f s).k < (h.alloc f s (.arr 1 (bytesL bs))).cnt (h.fresh f s).f (h.fresh f s).s := alloc_fresh_lt
    have hv := (R_os q4).2.2 (by rw [hcon]; trivial)
    have hne : sx.size ≠ 0 := fun h0 => k1 (by rw [← hsx]; exact List.eq_nil_of_length_eq_zero (by simpa using h0))
    have hsz : sx.size = bs.length := by rw [← hsx]; simp
    have hstrC : Lib.strCells sx = byteC bs := by rw [← hsx]; rfl
    have hml : (2 : Nat) ^ 47 ≤ maxLen := by decide
    have ho : w'.ownsRow 0 el 1 v bs.length (byteC bs) := by
      obtain ⟨a, cap, rfl, hcap, _⟩ := R_l hx
      have hcap := hcap rfl
      simp only [List.length_nil] at hcap
      subst hcap
      have hz1 : (Value.int IntKind.u8 0).cells.size = 1 := rfl
      have hge := grownCap_ge w sx.size 0 el
      have hle := grownCap_le_maxLen w sx.size 0 el (by omega)
      cases a with
      | none =>
        have hr := run_append_nil_string (P := P) w t u ty el i (.int .u8 0) (tk_slice ht) (tk_string hu) hi hz sx (by omega) (by omega) (by rw [hb]; omega)
        simp only [List.length_nil] at q1
        rw [hr] at q1
        injection q1 with q1 q1'
        subst q1; subst q1'
        have e1 : (sx.data.map fun b => Value.int .u8 b.toNat) = (Lib.strCells sx).toArray := by
          apply Array.ext'
          simp [Lib.strCells]
        rw [e1, ← hsz, ← hstrC]
        exact owns_new (by rw [size_zeroCells, hz1, Nat.mul_one]) hge hle
      | some a =>
        have hr := Lib.run_append_grow_string (P := P) w t u ty el i (.int .u8 0) (tk_slice ht) (tk_string hu) hi hz a 0 0 [] (by simp) (fun j v hj => by simp at hj) sx (by omega) (by omega) (by rw [hb]; exact growslice_fits (by omega) (by omega))
        simp only [List.length_nil] at q1
        rw [hr] at q1
        injection q1 with q1 q1'
        subst q1; subst q1'
        simp only [Nat.zero_add]
        rw [← hsz, ← hstrC]
        have e2 : (#[] : Array Value) ++ (Lib.strCells sx).toArray = (Lib.strCells sx).toArray := by simp
        rw [show ([] : List Value).toArray = #[] from rfl, e2]
        exact owns_new (by rw [size_zeroCells, hz1, Nat.mul_one]) hge hle
    rw [hv] at ho
    obtain ⟨u1, u2⟩ := HRel.strong q2 hcon hlt k1 ho
    have eH : (h.alloc f s (.arr 1 (bytesL bs))).set (h.fresh f s) (.ba el bs) = h.alloc f s (.ba el bs) := by
      refine Hp.same ?_ rfl
      funext M
      by_cases hM : M = h.fresh f s
      · subst hM; rw [set_con_eq (by rw [hcon]; trivial), alloc_con_eq]
      · rw [set_con_ne hM, alloc_con_ne hM, alloc_con_ne hM]
    have q5 := R.ext q2 u2 q4
    rw [eH] at u1 u2 q5
    exact ⟨w', v, _, e', _, q1, u1, q3.trans u2, q5, hK⟩
  · rename_i L
    unfold btsC at hK
    split at hK
    · rename_i el' cs hcL
      obtain ⟨rfl, k1, k2, hK⟩ := hK
      have hx1 := R_os hx
      have hk := hx1.1
      have hvx := hx1.2.2 (by rw [hcL]; trivial)
      have hlive : (h.con L).live := by rw [hcL]; trivial
      obtain ⟨g1, g2⟩ := HRel.weak hh hcL hk k1
      have hml : (2 : Nat) ^ 47 < 2 ^ 62 := by decide
      have hX : appendX (h.set L (.arr 1 (bytesL cs))) f s (tsz P el') (tbytes P el') (.os L) (bytesL bs) (fun av h' => av = .os (h.fresh f s) ∧ h' = ((h.set L (.arr 1 (bytesL cs))).set L .none).alloc f s (.arr 1 (bytesL (cs ++ bs)))) := by
        unfold appendX
        dsimp only
        rw [set_con_eq hlive, h1, h2]
        unfold appendC
        dsimp only
        refine ⟨rfl, by rw [hbl]; simp [bytesL]; omega, by rw [hbl]; simp [bytesL]; omega, by decide, rfl, ?_⟩
        simp [bytesL]
      have hsrc' : SrcAt P w B (e.E (h.set L (.arr 1 (bytesL cs)))) (tsz P el') (bytesL bs) vy := by
        rw [h1]
        obtain ⟨s1, us, s2, s3, s4, s5⟩ := hsrc
        exact ⟨s1, us, s2, s3, fun i j h' hj => (s4 i j h' hj).ext hh g2, s5⟩
      obtain ⟨w', v, h', e', av, q1, q2, q3, q4, rfl, rfl⟩ := appendX_sound (ty := ty) g1 ht hUk htok (hx.ext hh g2) hsrc' f s hX
      have eS : ((h.set L (.arr 1 (bytesL cs))).set L .none) = h.set L .none := by
        refine Hp.same ?_ rfl
        funext M
        rw [set_none_con, set_none_con]
        by_cases hM : M = L
        · rw [if_pos hM, if_pos hM]
        · rw [if_neg hM, if_neg hM, set_con_ne hM]
      rw [eS] at q2 q3 q4
      have fr : h.fresh f s = (h.set L .none).fresh f s := rfl
      have hcon : ((h.set L .none).alloc f s (.arr 1 (bytesL (cs ++ bs)))).con (h.fresh f s) = .arr 1 (bytesL (cs ++ bs)) := by rw [fr]; exact alloc_con_eq
      have hlt : (h.fresh f s).k < ((h.set L .none).alloc f s (.arr 1 (bytesL (cs ++ bs)))).cnt (h.fresh f s).f (h.fresh f s).s := by rw [fr]; exact alloc_fresh_lt
      have hv := (R_os q4).2.2 (by rw [hcon]; trivial)
      have ho0 : w.ownsRow 0 el' 1 vx cs.length (byteC cs) := by
        have hc := hh.con L hk
        rw [hcL] at hc
        obtain ⟨p1, cap, cur, p2, ⟨p3, p3'⟩, p4, p5, p6, p7⟩ := hc
        refine ⟨by simp [byteC], .inr ⟨(e.β L).block, cap, cur, by rw [hvx, p3], Nat.zero_le _, p2, p4, p5, p6, p7⟩⟩
      obtain ⟨v2, w2, r1, r2⟩ := hrun vx cs ho0 k2
      rw [r1] at q1
      injection q1 with q1 q1'
      subst q1; subst q1'
      rw [hv] at r2
      obtain ⟨u1, u2⟩ := HRel.strong q2 hcon hlt (by simp [k1]) r2
      have eH : ((h.set L .none).alloc f s (.arr 1 (bytesL (cs ++ bs)))).set (h.fresh f s) (.ba el' (cs ++ bs)) = (h.set L .none).alloc f s (.ba el' (cs ++ bs)) := by
        refine Hp.same ?_ rfl
        funext M
        by_cases hM : M = h.fresh f s
        · subst hM; rw [set_con_eq (by rw [hcon]; trivial), fr, alloc_con_eq]
        · rw [set_con_ne hM]; rw [fr] at hM; rw [alloc_con_ne hM, alloc_con_ne hM]
      have q5 := R.ext q2 u2 q4
      rw [eH] at u1 u2 q5
      exact ⟨_, _, _, e', _, r1, u1, (g2.trans q3).trans u2, q5, hK⟩
    · exact hK.elim
  · exact hK.elim
theorem Nx.bts {P : Program} {w0 : World} {B0 : Nat → Prop} {e0 : Env} {h0 : Hp} {n : Nat} {ds : List Deferred} {K : St → Prop} {o : Oper} {st : St} {a : Act} {w : World} {B : Nat → Prop} {e : Env} {fid : Nat}
    (hr : Rel w B e n st a) (hx : Ext w0 B0 e0 h0 w B e st.hp) (hds : a.defers = ds) (hd : ∀ x, o.dst = some x → x < n) (hK : btsO P fid o st K) :
    Fin P w0 B0 e0 h0 n ds K o.dst a ((execOp a.eval o).run P w) := by
  obtain ⟨d, op, ty, ps, af, g⟩ := o
  simp only at hd ⊢
  unfold btsO at hK
  simp only at hK
  split at hK
  · rename_i args ats
    unfold btsL at hK
    split at hK
    · rename_i x y t u hx' ht
      obtain ⟨hU, hK⟩ := hK
      obtain rfl : ats = #[t, u] := by rw [← Array.toArray_toList (xs := ats), ht]
      obtain ⟨a0, a1, rfl, rfl, rfl⟩ := two_args hx'
      unfold btsA at hK
      split at hK
      · rename_i el hk
        obtain ⟨hE, hK⟩ := hK
        obtain ⟨w', v, h', e', av, h1, h2, h3, h4, h5⟩ := bts_sound (ty := ty) hr.hp hk hU hE (ev_R hr a0) (ev_R hr a1) fid (d.getD 0) hK
        unfold execOp
        have hrun : (do let d ← resolve a.eval { callee := .builtin .append, args := #[a0, a1], argTypes := #[t, u] } ty; invoke d.target d.args : Sem Next).run P w = .ok (.value v) w' := by
          simp [resolve, invoke, builtin, h1]
        rw [hrun]
        exact Nx.heap (h' := h') hr hx hds hd h2 h3 h4 h5
      · exact hK.elim
    · exact hK.elim
  · exact hK.elim
end Go.T
/- Soundness, sixteenth part: regions in any order of their operations; code; functions. -/
namespace Go.T
open Go


theorem calls_in {P : Program} {f : FuncId} {args : Array Value} {w : World} {R : Ending → World → Prop} (r : Option Nat) (m : Nat) (h : Calls P f args w R) : CallsIn (wr r) m P f args w R :=
  (callsIn_wide (n := m)).2 h

/-- One operation, its guard asked. -/
def stepT (P : Program) (fid : Nat) (ops : List Oper) (tg : Tg) (o : Oper) (st : St) (K : St → Prop) : Prop :=
  guardG o.guard (opT P fid tg o st K)
    (fun j want => guardO ((ops[j]?).bind (·.dst)) fun d => guardK (st.slots d) want
      (opT P fid tg o (st.put (some d) (.bool want)) K)
      (K ((st.put (some d) (.bool (!want))).put o.dst .un))
      (K (st.put o.dst .un)))

/-- The operations in an order of their numbers. -/
def runL (P : Program) (fid : Nat) (ops : List Oper) (tg : Nat → Tg) : List Nat → St → (St → Prop) → Prop
  | [], st, K => K st
  | i :: r, st, K =>
    match ops[i]? with
    | none => runL P fid ops tg r st K
    | some o => stepT P fid ops (tg i) o st (fun st' => runL P fid ops tg r st' K)

/-- What is shown beside an operation comes to the operation. -/
theorem opT_opK {P : Program} {fid : Nat} {tg : Tg} {o : Oper} {st : St} {K : St → Prop} (hz : tg ≠ .frz) (hz' : tg ≠ .bts) (h : opT P fid tg o st K) : opK P fid o st K := by
  cases tg with
  | frz => exact absurd rfl hz
  | bts => exact absurd rfl hz'
  | plain => exact h
  | blk => exact h.2
  | avoid ss => exact h.2
  | mine => exact h.2
  | pure =>
    obtain ⟨d, op, ty, ps, af, g⟩ := o
    simp only [opT] at h
    unfold pureO at h
    split at h
    · rename_i f args ats
      unfold pureK at h
      split at h
      · rename_i g caps hf
        obtain ⟨h1, v, h2, h3⟩ := h
        unfold opK calleeK callV
        simp only [Callee.ev, hf]
        refine ⟨h1, fun w B e vs q1 q2 q3 => (h2 st.hp w B e vs q1 q2 q3).mono ?_⟩
        rintro en w' ⟨v', r, h', B', e', g1, g2, g3, g4, rfl, rfl⟩
        exact ⟨v', r, st.hp, B', e', g1, g2, g3, g4, h3⟩
      · exact h.elim
    · exact h.elim

def toEx : Exit → Option Ex
  | .normal => some .normal
  | .exit id => some (.exit id)
  | .ret => some .ret
  | _ => none

/-- The machine's side of an abstract postcondition. -/
def Qm (w0 : World) (B0 : Nat → Prop) (e0 : Env) (h0 : Hp) (n : Nat) (ds : List Deferred) (Q : Ex → St → Prop) (e : Exit) (a : Act) (w : World) : Prop :=
  ∃ x, toEx e = some x ∧ Nx w0 B0 e0 h0 n ds (Q x) a w

section
variable {P : Program} {w0 : World} {B0 : Nat → Prop} {e0 : Env} {h0 : Hp} {n : Nat} {ds : List Deferred}

theorem opK_noDefer {fid : Nat} {o : Oper} {st : St} {K : St → Prop} (h : opK P fid o st K) : ∀ c, o.op ≠ .defer c := by
  intro c hc
  unfold opK at h
  rw [hc] at h
  exact h

theorem op_wpF {o : Oper} {a : Act} {w : World} (r : Option Nat) (m : Nat) {K : St → Prop} {next : Act → World → Prop} {Q : Exit → Act → World → Prop}
    (hnd : ∀ c, o.op ≠ .defer c) (hf : Fin P w0 B0 e0 h0 n ds K o.dst a ((execOp a.eval o).run P w))
    (hn : ∀ a' w', Nx w0 B0 e0 h0 n ds K a' w' → next a' w') : o.wpIn (wr r) m P a w next Q := by
  refine ⟨fun _ _ => trivial, ?_⟩
  rw [Oper.semAt_eq _ _ _ hnd]
  revert hf
  generalize (execOp a.eval o).run P w = res
  intro hf
  cases res with
  | halt h w' => exact hf.elim
  | ok nx w' =>
    cases nx <;> try exact hf.elim
    · exact hn _ _ hf
    · exact hn _ _ hf
    · rename_i f args
      refine ⟨fun hh => by simp [wr, Fence.wide] at hh, calls_in r _ (Calls.mono hf fun en w'' hR => ?_)⟩
      cases en with
      | returned v => exact hn _ _ hR
      | panicked c => exact hR.elim
      | outgrown => exact hR.elim
    · rename_i l f tmps asg body
      refine ⟨fun hh => by simp [wr, Fence.wide] at hh, (hf r (m - 1)).mono fun en w'' hR => ?_⟩
      cases en with
      | returned v => exact hn _ _ hR
      | panicked c => exact hR.elim
      | outgrown => exact hR.elim

theorem op_wp {fid : Nat} {o : Oper} {st : St} {a : Act} {w : World} {B : Nat → Prop} {e : Env} (r : Option Nat) (m : Nat) {K : St → Prop} {next : Act → World → Prop} {Q : Exit → Act → World → Prop} {tg : Tg}
    (hr : Rel w B e n st a) (hx : Ext w0 B0 e0 h0 w B e st.hp) (hds : a.defers = ds) (hd : ∀ x, o.dst = some x → x < n) (hK : opT P fid tg o st K)
    (hn : ∀ a' w', Nx w0 B0 e0 h0 n ds K a' w' → next a' w') : o.wpIn (wr r) m P a w next Q := by
  by_cases hz : tg = .frz
  · subst hz
    refine op_wpF r m (K := K) ?_ (Nx.pure' hr hx hds hd hK) hn
    intro c hc
    simp only [opT] at hK
    unfold frzO at hK
    rw [hc] at hK
    exact hK
  by_cases hz' : tg = .bts
  · subst hz'
    refine op_wpF r m (K := K) ?_ (Nx.bts hr hx hds hd hK) hn
    intro c hc
    simp only [opT] at hK
    unfold btsO at hK
    rw [hc] at hK
    exact hK
  · have hk := opT_opK hz hz' hK
    exact op_wpF r m (opK_noDefer hk) (opK_sound fid o hr hx hds hd hk) hn

theorem Rel.putSame {w : World} {B : Nat → Prop} {e : Env} {st : St} {a : Act} (hr : Rel w B e n st a) (d : Nat) (av : AV) (hv : R w B (e.E st.hp) av (a.tmps.getD d undef)) : Rel w B e n (st.put (some d) av) a := by
  refine ⟨by rw [put_hp]; exact hr.hp, fun i => ?_, hr.size⟩
  rw [put_slots, put_hp]
  by_cases hi : i = d
  · subst hi; rw [if_pos rfl]; exact hv
  · rw [if_neg hi]; exact hr.slots i

theorem yielded_bool {ops : Array Oper} {tmps : Array Value} {j d : Nat} {b : Bool} (hj : (ops[j]?).bind (·.dst) = some d) (ht : tmps.getD d undef = .bool b) : yielded ops tmps j = some b := by
  unfold yielded
  rw [hj]
  have : tmps[d]? = some (.bool b) := by
    rcases Nat.lt_or_ge d tmps.size with h | h
    · simp [h] at ht ⊢; exact ht
    · simp [Array.getElem?_eq_none h] at ht
      cases ht
  simp [this]

theorem yielded_un {ops : Array Oper} {tmps : Array Value} {j d : Nat} (hj : (ops[j]?).bind (·.dst) = some d) (ht : tmps.getD d undef = undef) : yielded ops tmps j = none := by
  unfold yielded
  rw [hj]
  simp only [Option.bind_some]
  cases h : tmps[d]? with
  | none => rfl
  | some v =>
    have : v = undef := by simpa [h] using ht
    subst this
    rfl

theorem step_wp {fid : Nat} (ops : Array Oper) (hd : ∀ o ∈ ops.toList, ∀ x, o.dst = some x → x < n) (r : Option Nat) (m : Nat) {Q : Exit → Act → World → Prop} {tg : Tg} {i : Nat} {o : Oper} (ho : ops[i]? = some o) {st : St} {a : Act} {w : World} {B : Nat → Prop} {e : Env} {K : St → Prop} {next : Act → World → Prop}
    (hr : Rel w B e n st a) (hx : Ext w0 B0 e0 h0 w B e st.hp) (hds : a.defers = ds) (h : stepT P fid ops.toList tg o st K) (again : ∀ a' w', Nx w0 B0 e0 h0 n ds K a' w' → next a' w') :
    if Region.wanted o (yielded ops a.tmps) then o.wpIn (wr r) m P a w next Q else (∀ f, o.about P w a.eval = some f → (wr r).fn f) ∧ next (a.put o.dst undef) w := by
  have hmem : o ∈ ops.toList := by
    have : ops.toList[i]? = some o := by simpa using ho
    exact List.mem_of_getElem? this
  have hdo := hd o hmem
  unfold stepT guardG at h
  split at h
  · rename_i hg
    have hw : Region.wanted o (yielded ops a.tmps) = true := by simp [Region.wanted, hg]
    rw [if_pos hw]
    exact op_wp r m hr hx hds hdo h again
  · rename_i j want hg
    unfold guardO at h
    split at h
    · rename_i d hj
      have hj' : (ops[j]?).bind (·.dst) = some d := by simpa using hj
      unfold guardK at h
      split at h
      · rename_i b hb
        have hv := hr.slots d
        rw [hb] at hv
        have hv' := R_bool hv
        have hy := yielded_bool hj' hv'
        by_cases hbw : b = want
        · have hw : Region.wanted o (yielded ops a.tmps) = true := by simp [Region.wanted, hg, hy, hbw]
          rw [if_pos hw]
          exact op_wp r m (hr.putSame d (.bool want) (by rw [← hbw]; exact hv)) (by rw [put_hp]; exact hx) hds hdo (h.1 hbw) again
        · have hw : ¬ Region.wanted o (yielded ops a.tmps) = true := by simp [Region.wanted, hg, hy, hbw]
          rw [if_neg hw]
          have hbn : b = !want := by cases b <;> cases want <;> simp_all
          have hr2 := hr.putSame d (.bool (!want)) (by rw [← hbn]; exact hv)
          refine ⟨fun _ _ => trivial, again _ _ ?_⟩
          exact Nx.value hr2 (by rw [put_hp]; exact hx) hds hdo .un (h.2 hbn)
      · rename_i hb
        have hv := hr.slots d
        rw [hb] at hv
        have hy := yielded_un hj' (R_un hv)
        have hw : ¬ Region.wanted o (yielded ops a.tmps) = true := by simp [Region.wanted, hg, hy]
        rw [if_neg hw]
        exact ⟨fun _ _ => trivial, again _ _ (Nx.value hr hx hds hdo .un h)⟩
      · exact h.elim
    · exact h.elim

theorem runL_sound {fid : Nat} (ops : Array Oper) (hd : ∀ o ∈ ops.toList, ∀ x, o.dst = some x → x < n) (r : Option Nat) (m : Nat) {Q : Ex → St → Prop} {tg : Nat → Tg} : ∀ (σ : List Nat) (st : St) (a : Act) (w : World) (B : Nat → Prop) (e : Env),
    Rel w B e n st a → Ext w0 B0 e0 h0 w B e st.hp → a.defers = ds → runL P fid ops.toList tg σ st (Q .normal) → wpOpsIn (wr r) m P ops (Qm w0 B0 e0 h0 n ds Q) σ a w := by
  intro σ
  induction σ with
  | nil => intro st a w B e hr hx hds h; exact ⟨.normal, rfl, st, B, e, h, hr, hx, hds⟩
  | cons i σ ih =>
    intro st a w B e hr hx hds h
    have again : ∀ a' w', Nx w0 B0 e0 h0 n ds (fun st' => runL P fid ops.toList tg σ st' (Q .normal)) a' w' → wpOpsIn (wr r) m P ops (Qm w0 B0 e0 h0 n ds Q) σ a' w' := by
      rintro a' w' ⟨st', B', e', h1, h2, h3, h4⟩
      exact ih st' a' w' B' e' h2 h3 h4 h1
    simp only [runL] at h
    simp only [wpOpsIn]
    have hoe : ops.toList[i]? = ops[i]? := by simp
    rw [hoe] at h
    cases ho : ops[i]? with
    | none => rw [ho] at h; exact ih st a w B e hr hx hds h
    | some o =>
      rw [ho] at h
      exact step_wp ops hd r m ho hr hx hds h again

/-- The tag of the i-th operation. -/
def tagAt (tg : List Tg) (i : Nat) : Tg := match tg[i]? with
  | some t => t
  | none => .plain
theorem tagAt_zero (tg : List Tg) : headT tg = tagAt tg 0 := by cases tg <;> rfl
theorem tagAt_succ (tg : List Tg) (i : Nat) : tagAt (tailT tg) i = tagAt tg (i + 1) := by cases tg <;> simp [tailT, tagAt]

theorem opsK_eq {fid : Nat} {K : St → Prop} (tg : Nat → Tg) : ∀ (rest pre : List Oper) (tl : List Tg) (st : St), (∀ i, tagAt tl i = tg (pre.length + i)) → (∀ i o j b, (rest[i]? = some o) → o.guard = some (j, b) → j < pre.length + i) →
    opsK P fid tl (pre.map (·.dst)) rest st K = runL P fid (pre ++ rest) tg (List.range' pre.length rest.length) st K := by
  intro rest
  induction rest with
  | nil => intro pre tl st _ _; simp [opsK, runL]
  | cons o rest ih =>
    intro pre tl st ht hg
    have hnext : ∀ st', opsK P fid (tailT tl) (pre.map (·.dst) ++ [o.dst]) rest st' K = runL P fid (pre ++ o :: rest) tg (List.range' (pre.length + 1) rest.length) st' K := by
      intro st'
      have := ih (pre ++ [o]) (tailT tl) st' (fun i => by rw [tagAt_succ, ht]; congr 1; simp; omega) (fun i o' j b h1 h2 => by have := hg (i + 1) o' j b (by simpa using h1) h2; simp; omega)
      simpa using this
    have hget : (pre ++ o :: rest)[pre.length]? = some o := by simp
    have htag : headT tl = tg pre.length := by rw [tagAt_zero, ht]; rfl
    simp only [opsK, List.length_cons, List.range'_succ, runL, hget, stepT]
    simp only [hnext, htag]
    cases hgu : o.guard with
    | none => rfl
    | some p =>
      obtain ⟨j, want⟩ := p
      have hj := hg 0 o j want (by simp) hgu
      have : (pre.map (·.dst)).getD j none = ((pre ++ o :: rest)[j]?).bind (·.dst) := by
        have hjl : j < pre.length := by omega
        simp [List.getElem?_append_left, hjl]
      simp only [guardG, this]

end

theorem YieldK.mono {P : Program} {L : Lab} {args : List AV} {h : Hp} {K K' : AV → Hp → Prop} (hc : YieldK P L args h K) (hk : ∀ r h', K r h' → K' r h') : YieldK P L args h K' := by
  intro w B e vs h1 h2 h3 h4
  obtain ⟨f, tmps, asg, body, g1, g2⟩ := hc w B e vs h1 h2 h3 h4
  refine ⟨f, tmps, asg, body, g1, fun r m => (g2 r m).mono ?_⟩
  rintro en w' ⟨v, r', h', B', e', q1, q2, q3, q4, q5⟩
  exact ⟨v, r', h', B', e', q1, q2, q3, q4, hk _ _ q5⟩
theorem CallK.mono {P : Program} {f : Nat} {args : List AV} {h : Hp} {K K' : AV → Hp → Prop} (hc : CallK P f args h K) (hk : ∀ r h', K r h' → K' r h') : CallK P f args h K' :=
  fun w B e vs h1 h2 h3 => (hc w B e vs h1 h2 h3).mono fun _ _ ⟨v, r, h', B', e', g1, g2, g3, g4, g5⟩ => ⟨v, r, h', B', e', g1, g2, g3, g4, hk _ _ g5⟩

end Go.T
/- What an operation hangs on: its operands, and of the heap what it reads; operations apart may change places. -/
namespace Go.T
open Go

/-- An answer that is one, and hangs on nothing else. -/
def Fn {α : Type} (F : (α → Prop) → Prop) : Prop := ∀ K : α → Prop, F K → ∃ v, K v ∧ ∀ K' : α → Prop, K' v → F K'

theorem fn_loadC {c : Con} {g : Bool} {n sz i j : Nat} : Fn (fun K => loadC c g n sz i j K) := by
  intro K h
  unfold loadC at h
  cases c with
  | blk cs => exact ⟨_, h.2.2.2, fun K' h' => by unfold loadC; exact ⟨h.1, h.2.1, h.2.2.1, h'⟩⟩
  | arr sz' xs => obtain ⟨h1, hi, h2, h3, h4⟩ := h; exact ⟨_, h4, fun K' h' => by unfold loadC; exact ⟨h1, hi, h2, h3, h'⟩⟩
  | none => exact h.elim
  | mp _ _ => exact h.elim
  | ba _ _ => exact h.elim
  | bt _ cs => exact ⟨_, h.2.2.2, fun K' h' => by unfold loadC; exact ⟨h.1, h.2.1, h.2.2.1, h'⟩⟩
  | gl cs => exact ⟨_, h.2.2.2, fun K' h' => by unfold loadC; exact ⟨h.1, h.2.1, h.2.2.1, h'⟩⟩
  | lp _ _ _ _ _ _ => exact h.elim
theorem fn_loadK {h : Hp} {g : Bool} {n : Nat} {a : AV} : Fn (fun K => loadK h g n a K) := by
  intro K hk
  unfold loadK at hk
  split at hk
  · exact ⟨_, hk.2.2, fun K' h' => by unfold loadK; exact ⟨hk.1, hk.2.1, h'⟩⟩
  · obtain ⟨v, h1, h2⟩ := fn_loadC K hk
    exact ⟨v, h1, fun K' h' => by unfold loadK; exact h2 K' h'⟩
  · exact hk.elim
theorem fn_pickK {c a b : AV} : Fn (fun K => pickK c a b K) := by
  intro K hk
  unfold pickK at hk
  split at hk
  · exact ⟨_, hk, fun K' h' => by unfold pickK; exact h'⟩
  · exact hk.elim
theorem fn_nilCheckK {x : AV} : Fn (fun K => nilCheckK x K) := by
  intro K hk
  unfold nilCheckK at hk
  split at hk
  · exact ⟨_, hk, fun K' h' => by unfold nilCheckK; exact h'⟩
  · exact ⟨_, hk, fun K' h' => by unfold nilCheckK; exact h'⟩
  · exact hk.elim
theorem fn_extractK {x : AV} {i : Nat} : Fn (fun K => extractK x i K) := by
  intro K hk
  unfold extractK at hk
  split at hk
  · obtain ⟨hi, hk⟩ := hk; exact ⟨_, hk, fun K' h' => by unfold extractK; exact ⟨hi, h'⟩⟩
  · exact hk.elim
theorem fn_convK {s d : TK} {x : AV} : Fn (fun K => convK s d x K) := by
  intro K hk
  unfold convK at hk
  split at hk
  · exact ⟨_, hk, fun K' h' => by unfold convK; exact h'⟩
  · exact hk.elim
theorem fn_unK {op : UnOp} {x : AV} : Fn (fun K => unK op x K) := by
  intro K hk
  unfold unK at hk
  split at hk
  · exact ⟨_, hk, fun K' h' => by unfold unK; exact h'⟩
  · exact ⟨_, hk, fun K' h' => by unfold unK; exact h'⟩
  · exact ⟨_, hk, fun K' h' => by unfold unK; exact h'⟩
  · exact hk.elim
theorem fn_fieldAddrK {off : Nat} {a : AV} : Fn (fun K => fieldAddrK off a K) := by
  intro K hk
  unfold fieldAddrK at hk
  split at hk
  · exact ⟨_, hk, fun K' h' => by unfold fieldAddrK; exact h'⟩
  · exact ⟨_, hk, fun K' h' => by unfold fieldAddrK; exact h'⟩
  · exact hk.elim
theorem fn_fieldAddrO {o : Option (Nat × Nat × TypeId)} {a : AV} : Fn (fun K => fieldAddrO o a K) := by
  intro K hk
  unfold fieldAddrO at hk
  split at hk
  · obtain ⟨v, h1, h2⟩ := fn_fieldAddrK K hk; exact ⟨v, h1, fun K' h' => by unfold fieldAddrO; exact h2 K' h'⟩
  · exact hk.elim
theorem fn_fieldO {P : Program} {o : Option (Nat × Nat × TypeId)} {a : AV} : Fn (fun K => fieldO P o a K) := by
  intro K hk
  unfold fieldO at hk
  split at hk
  · exact ⟨_, hk.2, fun K' h' => by unfold fieldO; exact ⟨hk.1, h'⟩⟩
  · exact hk.elim
theorem fn_indexK {o : Option (Nat × Bool)} {m : Nat} {x ix : AV} : Fn (fun K => indexK o m x ix K) := by
  intro K hk
  unfold indexK at hk
  split at hk
  · split at hk
    · exact ⟨_, hk.2.2.2.2, fun K' h' => by unfold indexK; exact ⟨hk.1, hk.2.1, hk.2.2.1, hk.2.2.2.1, h'⟩⟩
    · obtain ⟨h1, hi, hk⟩ := hk; exact ⟨_, hk, fun K' h' => by unfold indexK; exact ⟨h1, hi, h'⟩⟩
    · exact hk.elim
  · exact hk.elim
theorem fn_indexO {P : Program} {k : TK} {x ix : AV} : Fn (fun K => indexO P k x ix K) := by
  intro K hk
  unfold indexO at hk
  split at hk
  · obtain ⟨v, h1, h2⟩ := fn_indexK K hk.2; exact ⟨v, h1, fun K' h' => by unfold indexO; exact ⟨hk.1, h2 K' h'⟩⟩
  · obtain ⟨v, h1, h2⟩ := fn_indexK K hk; exact ⟨v, h1, fun K' h' => by unfold indexO; exact h2 K' h'⟩
  · exact hk.elim
theorem fn_indexC {c : Con} {L : Lab} {m : Nat} {i : Int} : Fn (fun K => indexC c L m i K) := by
  intro K hk
  unfold indexC at hk
  split at hk
  · exact ⟨_, hk.2.2.2, fun K' h' => by unfold indexC; exact ⟨hk.1, hk.2.1, hk.2.2.1, h'⟩⟩
  · exact hk.elim
theorem viewC_get {c : Con} {sz a n : Nat} {F : List AV → Prop} (h : viewC c sz a n F) : ∃ xs, F xs ∧ ∀ G : List AV → Prop, G xs → viewC c sz a n G := by
  unfold viewC at h
  split at h
  · exact ⟨_, h.2.2, fun G hg => by unfold viewC; exact ⟨h.1, h.2.1, hg⟩⟩
  · exact h.elim
theorem viewC_live {c : Con} {sz a n : Nat} {F : List AV → Prop} (h : viewC c sz a n F) : c.live := by
  cases c <;> simp only [viewC] at h <;> trivial
theorem fn_viewK {L : Lab} {sz a n : Nat} {lo hi mx : Option AV} : Fn (fun K => viewK L sz a n lo hi mx K) := by
  intro K hk
  unfold viewK at hk
  split at hk
  · exact ⟨_, hk.2.2, fun K' h' => by unfold viewK; exact ⟨hk.1, hk.2.1, h'⟩⟩
  · exact ⟨_, hk.2.2, fun K' h' => by unfold viewK; exact ⟨hk.1, hk.2.1, h'⟩⟩
  · exact ⟨_, hk.2.2.2, fun K' h' => by unfold viewK; exact ⟨hk.1, hk.2.1, hk.2.2.1, h'⟩⟩
  · exact hk.elim
theorem fn_indexAddrK {h : Hp} {o : Option Nat} {m : Nat} {x ix : AV} : Fn (fun K => indexAddrK h o m x ix K) := by
  intro K hk
  unfold indexAddrK at hk
  split at hk
  · split at hk
    · exact ⟨_, hk.2.2, fun K' h' => by unfold indexAddrK; exact ⟨hk.1, hk.2.1, h'⟩⟩
    · exact ⟨_, hk.2.2, fun K' h' => by unfold indexAddrK; exact ⟨hk.1, hk.2.1, h'⟩⟩
    · obtain ⟨h1, h2, hi, hk⟩ := hk; exact ⟨_, hk, fun K' h' => by unfold indexAddrK; exact ⟨h1, h2, hi, h'⟩⟩
    · obtain ⟨v, h1, h2⟩ := fn_indexC K hk; exact ⟨v, h1, fun K' h' => by unfold indexAddrK; exact h2 K' h'⟩
    · obtain ⟨xs, ⟨q1, q2, q3, hk⟩, hv⟩ := viewC_get hk; exact ⟨_, hk, fun K' h' => by unfold indexAddrK; exact hv _ ⟨q1, q2, q3, h'⟩⟩
    · exact hk.elim
  · exact hk.elim
theorem fn_indexAddrO {P : Program} {k : TK} {h : Hp} {x ix : AV} : Fn (fun K => indexAddrO P k h x ix K) := by
  intro K hk
  unfold indexAddrO at hk
  split at hk
  · obtain ⟨v, h1, h2⟩ := fn_indexAddrK K hk.2.2.2; exact ⟨v, h1, fun K' h' => by unfold indexAddrO; exact ⟨hk.1, hk.2.1, hk.2.2.1, h2 K' h'⟩⟩
  · obtain ⟨v, h1, h2⟩ := fn_indexAddrK K hk.2.2; exact ⟨v, h1, fun K' h' => by unfold indexAddrO; exact ⟨hk.1, hk.2.1, h2 K' h'⟩⟩
  · exact hk.elim
theorem fn_lenK {h : Hp} {x : AV} : Fn (fun K => lenK h x K) := by
  intro K hk
  unfold lenK at hk
  split at hk
  · exact ⟨_, hk, fun K' h' => by unfold lenK; exact h'⟩
  · unfold lenC at hk
    split at hk
    · rename_i hc; exact ⟨_, hk, fun K' h' => by unfold lenK lenC; simp only [hc]; exact h'⟩
    · exact hk.elim
  · obtain ⟨xs, hk, hv⟩ := viewC_get hk; exact ⟨_, hk, fun K' h' => by unfold lenK; exact hv _ h'⟩
  · exact hk.elim
theorem fn_lenO {k : TK} {h : Hp} {x : AV} : Fn (fun K => lenO k h x K) := by
  intro K hk
  unfold lenO at hk
  split at hk
  · unfold lenSK at hk
    split at hk
    · exact ⟨_, hk, fun K' h' => by unfold lenO lenSK; exact h'⟩
    · exact hk.elim
  · obtain ⟨v, h1, h2⟩ := fn_lenK K hk; exact ⟨v, h1, fun K' h' => by unfold lenO; exact h2 K' h'⟩
  · exact ⟨_, hk, fun K' h' => by unfold lenO; exact h'⟩
  · exact hk.elim
theorem eqK_agg {q : EqI} {cs ds : List AV} {K : Bool → Prop} : eqK q (.agg cs) (.agg ds) K = (q.eok = true ∧ 0 < q.n ∧ cs.length = q.n ∧ ∃ b, cellsEq cs ds = some b ∧ K b) := by
  unfold eqK
  cases q.k <;> rfl
theorem fn_eqK {q : EqI} (hn : q.yn = false) {x y : AV} : Fn (fun K => eqK q x y K) := by
  intro K hk
  unfold eqK at hk
  split at hk
  all_goals first
    | exact hk.elim
    | (rename_i hq; exact ⟨_, hk, fun K' h' => by unfold eqK; simp only [hq]; exact h'⟩)
    | skip
  · rw [hn] at hk; exact absurd hk.1 (by simp)
  · obtain ⟨h1, h2, h3, b, h4, h5⟩ := hk
    exact ⟨b, h5, fun K' h' => by dsimp only; rw [eqK_agg]; exact ⟨h1, h2, h3, b, h4, h'⟩⟩
theorem fn_binK {q : EqI} (hn : q.yn = false) {op : BinOp} {x y : AV} : Fn (fun K => binK q op x y K) := by
  intro K hk
  unfold binK at hk
  split at hk
  · split at hk
    · exact ⟨_, hk.2, fun K' h' => by unfold binK; exact ⟨hk.1, h'⟩⟩
    · exact ⟨_, hk.2, fun K' h' => by unfold binK; exact ⟨hk.1, h'⟩⟩
    · exact ⟨_, hk.2.2, fun K' h' => by unfold binK; exact ⟨hk.1, hk.2.1, h'⟩⟩
    · exact ⟨_, hk.2.2, fun K' h' => by unfold binK; exact ⟨hk.1, hk.2.1, h'⟩⟩
    · rename_i h1 h2 h3 h4
      obtain ⟨g1, v, g2, g3⟩ := hk
      refine ⟨v, g3, fun K' h' => ?_⟩
      unfold binK
      cases op <;> first | exact absurd rfl ‹_› | exact ⟨g1, v, g2, h'⟩ | (simp at h1) | (simp at h2) | (simp at h3) | (simp at h4)
  · split at hk
    · exact ⟨_, hk.2, fun K' h' => by unfold binK; exact ⟨hk.1, h'⟩⟩
    · exact ⟨_, hk, fun K' h' => by unfold binK; exact h'⟩
    · exact ⟨_, hk, fun K' h' => by unfold binK; exact h'⟩
    · exact hk.elim
  · rename_i h1 h2
    split at hk
    · obtain ⟨b, g1, g2⟩ := fn_eqK hn _ hk
      refine ⟨_, g1, fun K' h' => ?_⟩
      unfold binK
      split
      · exact absurd rfl (h1 _ _ _ _ rfl)
      · exact absurd rfl (h2 _ _ rfl)
      · exact g2 (fun b => K' (.bool b)) h'
    · obtain ⟨b, g1, g2⟩ := fn_eqK hn _ hk
      refine ⟨_, g1, fun K' h' => ?_⟩
      unfold binK
      split
      · exact absurd rfl (h1 _ _ _ _ rfl)
      · exact absurd rfl (h2 _ _ rfl)
      · exact g2 (fun b => K' (.bool (!b))) h'
    · exact hk.elim
theorem fn_sliceK {x : AV} {lo hi mx : Option AV} : Fn (fun K => sliceK x lo hi mx K) := by
  intro K hk
  unfold sliceK at hk
  split at hk
  · split at hk
    · exact ⟨_, hk.2.2, fun K' h' => by unfold sliceK; exact ⟨hk.1, hk.2.1, h'⟩⟩
    · exact ⟨_, hk.2.2, fun K' h' => by unfold sliceK; exact ⟨hk.1, hk.2.1, h'⟩⟩
    · exact ⟨_, hk.2.2.2, fun K' h' => by unfold sliceK; exact ⟨hk.1, hk.2.1, hk.2.2.1, h'⟩⟩
    · exact hk.elim
  · split at hk
    · exact ⟨_, hk.2.2, fun K' h' => by unfold sliceK; exact ⟨hk.1, hk.2.1, h'⟩⟩
    · exact ⟨_, hk.2.2, fun K' h' => by unfold sliceK; exact ⟨hk.1, hk.2.1, h'⟩⟩
    · exact ⟨_, hk.2.2.2, fun K' h' => by unfold sliceK; exact ⟨hk.1, hk.2.1, hk.2.2.1, h'⟩⟩
    · exact ⟨_, hk.2.2.2, fun K' h' => by unfold sliceK; exact ⟨hk.1, hk.2.1, hk.2.2.1, h'⟩⟩
    · exact hk.elim
  · exact hk.elim

theorem fn_sliceO {P : Program} {k : TK} {h : Hp} {x : AV} {lo hi mx : Option AV} : Fn (fun K => sliceO P k h x lo hi mx K) := by
  intro K hk
  unfold sliceO at hk
  split at hk
  · unfold viewP at hk
    split at hk
    · obtain ⟨h1, hk⟩ := hk
      unfold viewO at hk
      split at hk
      · rename_i hc
        obtain ⟨h2, hk⟩ := hk
        obtain ⟨v, g1, g2⟩ := fn_viewK K hk
        exact ⟨v, g1, fun K' h' => by unfold sliceO viewP viewO; simp only [hc]; exact ⟨h1, h2, g2 K' h'⟩⟩
      · exact hk.elim
    · exact hk.elim
  · unfold viewP at hk
    split at hk
    · obtain ⟨h1, h2, hk⟩ := hk
      obtain ⟨xs, hk, hv⟩ := viewC_get hk
      obtain ⟨v, g1, g2⟩ := fn_viewK K hk
      exact ⟨v, g1, fun K' h' => by unfold sliceO viewP; exact ⟨h1, h2, hv _ (g2 K' h')⟩⟩
    · exact hk.elim
  · rename_i hx1 hx2
    obtain ⟨v, h1, h2⟩ := fn_sliceK K hk.2
    refine ⟨v, h1, fun K' h' => ?_⟩
    unfold sliceO
    split
    · exact absurd rfl (hx1 _)
    · exact absurd rfl (hx2 _ _ _ _)
    · exact ⟨hk.1, h2 K' h'⟩
theorem fn_fillK {place : Nat → Option (Nat × Nat)} {ev : Operand → AV} : ∀ (parts : List (Nat × Operand)) (cs : List AV), Fn (fun K => fillK place cs ev parts K) := by
  intro parts
  induction parts with
  | nil => intro cs K hk; exact ⟨cs, hk, fun K' h' => h'⟩
  | cons p r ih =>
    obtain ⟨i, x⟩ := p
    intro cs K hk
    simp only [fillK] at hk
    cases hp : place i with
    | none => rw [hp] at hk; exact hk.elim
    | some on =>
      obtain ⟨off, n⟩ := on
      rw [hp] at hk
      obtain ⟨v, g1, g2⟩ := ih _ K hk.2.2.2
      exact ⟨v, g1, fun K' h' => by simp only [fillK, hp]; exact ⟨hk.1, hk.2.1, hk.2.2.1, g2 K' h'⟩⟩
theorem fn_buildK {P : Program} {k : TK} {t : TypeId} {ev : Operand → AV} {parts : List (Nat × Operand)} : Fn (fun K => buildK P k t ev parts K) := by
  intro K hk
  unfold buildK at hk
  split at hk
  · obtain ⟨v, g1, g2⟩ := fn_fillK _ _ _ hk.2.2; exact ⟨_, g1, fun K' h' => by unfold buildK; exact ⟨hk.1, hk.2.1, g2 (fun cs => K' (.agg cs)) h'⟩⟩
  · obtain ⟨v, g1, g2⟩ := fn_fillK _ _ _ hk.2.2; exact ⟨_, g1, fun K' h' => by unfold buildK; exact ⟨hk.1, hk.2.1, g2 (fun cs => K' (.agg cs)) h'⟩⟩
  · exact hk.elim
theorem fn_buildSliceK {P : Program} {k : TK} {n : Nat} {ev : Operand → AV} {parts : List (Nat × Operand)} : Fn (fun K => buildSliceK P k n ev parts K) := by
  intro K hk
  unfold buildSliceK at hk
  split at hk
  · obtain ⟨h1, h2, h3, h4, h5, h6, hk⟩ := hk
    exact ⟨_, hk, fun K' h' => by unfold buildSliceK; exact ⟨h1, h2, h3, h4, h5, h6, h'⟩⟩
  · exact hk.elim

/-- The tmps an operation reads. -/
def tmpsOf (xs : List Operand) : List Nat := xs.filterMap (fun | .tmp t => some t | _ => none)
def rd (o : Oper) : List Nat := tmpsOf o.op.operands.toList

theorem ev_same {st st' : St} {xs : List Operand} (h : ∀ t ∈ tmpsOf xs, st'.slots t = st.slots t) {x : Operand} (hx : x ∈ xs) : st'.ev x = st.ev x := by
  cases x with
  | tmp t => exact h t (List.mem_filterMap.2 ⟨_, hx, rfl⟩)
  | _ => rfl

/-- Operations that hang on their operands alone and turn nothing. -/
def isS : Op → Bool
  | .move _ => true
  | .assign _ => true
  | .pick _ _ _ => true
  | .build _ _ => true
  | .buildSlice _ _ _ => true
  | .nilCheck _ => true
  | .binOp _ _ _ y _ => !nilSlice y
  | .unOp _ _ _ => true
  | .convert _ _ _ => true
  | .makeFunc _ _ _ => true
  | .fieldAddr _ _ _ => true
  | .field _ _ _ => true
  | .index _ _ _ => true
  | .extract _ _ => true
  | _ => false
/-- .. that read the heap too. -/
def isL : Op → Bool
  | .load _ _ => true
  | .indexAddr _ _ _ => true
  | .lookup _ _ _ _ => true
  | .slice _ _ _ _ _ => true
  | .call ⟨.builtin .len, _, _⟩ => true
  | _ => false

/-- An operation that turns no heap: one value; and the same wherever operands and (by σ) heaps are alike. -/
def Quiet (F : St → (St → Prop) → Prop) (dst : Option Nat) (rds : List Nat) (σ : Hp → Hp → Prop) : Prop :=
  ∀ st K, F st K → ∃ v, K (st.put dst v) ∧ ∀ (st' : St) (K' : St → Prop), (∀ t ∈ rds, st'.slots t = st.slots t) → σ st.hp st'.hp → K' (st'.put dst v) → F st' K'

theorem fillK_ev {place : Nat → Option (Nat × Nat)} {ev ev' : Operand → AV} {K : List AV → Prop} : ∀ (parts : List (Nat × Operand)) (cs : List AV), (∀ p ∈ parts, ev' p.2 = ev p.2) → fillK place cs ev parts K → fillK place cs ev' parts K := by
  intro parts
  induction parts with
  | nil => intro cs _ h; exact h
  | cons p r ih =>
    obtain ⟨i, x⟩ := p
    intro cs he h
    simp only [fillK] at h ⊢
    have hx := he (i, x) (by simp)
    simp only at hx
    rw [hx]
    cases hp : place i with
    | none => rw [hp] at h; exact h.elim
    | some on =>
      rw [hp] at h
      exact ⟨h.1, h.2.1, h.2.2.1, ih _ (fun p hp => he p (by simp [hp])) h.2.2.2⟩
theorem buildK_ev {P : Program} {k : TK} {t : TypeId} {ev ev' : Operand → AV} {parts : List (Nat × Operand)} {K : AV → Prop} (he : ∀ p ∈ parts, ev' p.2 = ev p.2) (h : buildK P k t ev parts K) : buildK P k t ev' parts K := by
  unfold buildK at h ⊢
  split at h
  · exact ⟨h.1, h.2.1, fillK_ev _ _ he h.2.2⟩
  · exact ⟨h.1, h.2.1, fillK_ev _ _ he h.2.2⟩
  · exact h.elim
theorem buildSliceK_ev {P : Program} {k : TK} {n : Nat} {ev ev' : Operand → AV} {parts : List (Nat × Operand)} {K : AV → Prop} (he : ∀ p ∈ parts, ev' p.2 = ev p.2) (h : buildSliceK P k n ev parts K) : buildSliceK P k n ev' parts K := by
  have e : parts.map (fun p => ev' p.2) = parts.map (fun p => ev p.2) := List.map_congr_left he
  unfold buildSliceK at h ⊢
  rw [e]
  exact h

theorem quiet_S {P : Program} {fid : Nat} {o : Oper} (ho : isS o.op = true) : Quiet (opK P fid o) o.dst (rd o) (fun _ _ => True) := by
  intro st K hk
  unfold opK at hk
  unfold rd
  have key : ∀ {F : (AV → Prop) → Prop}, Fn F → F (fun v => K (st.put o.dst v)) → ∃ v, K (st.put o.dst v) ∧ ∀ (st' : St) (K' : St → Prop), K' (st'.put o.dst v) → F (fun v => K' (st'.put o.dst v)) := by
    intro F hF h
    obtain ⟨v, h1, h2⟩ := hF _ h
    exact ⟨v, h1, fun st' K' h' => h2 _ h'⟩
  cases hop : o.op <;> rw [hop] at ho hk <;> (try dsimp only at hk) <;> first | (simp [isS] at ho; done) | skip
  case move x => exact ⟨_, hk, fun st' K' he _ h' => by unfold opK; rw [hop]; dsimp only; rw [ev_same he (by simp [Op.operands])]; exact h'⟩
  case assign x => exact ⟨_, hk, fun st' K' he _ h' => by unfold opK; rw [hop]; dsimp only; rw [ev_same he (by simp [Op.operands])]; exact h'⟩
  case pick c x y =>
    obtain ⟨v, h1, h2⟩ := key fn_pickK hk
    exact ⟨v, h1, fun st' K' he _ h' => by unfold opK; rw [hop]; dsimp only; rw [ev_same he (x := c) (by simp [Op.operands]), ev_same he (x := x) (by simp [Op.operands]), ev_same he (x := y) (by simp [Op.operands])]; exact h2 st' K' h'⟩
  case build t parts =>
    obtain ⟨v, h1, h2⟩ := key fn_buildK hk
    exact ⟨v, h1, fun st' K' he _ h' => by unfold opK; rw [hop]; dsimp only; exact buildK_ev (fun p hp => ev_same he (by simp only [Op.operands]; exact List.mem_map.2 ⟨p, hp, rfl⟩)) (h2 st' K' h')⟩
  case buildSlice t n parts =>
    obtain ⟨v, h1, h2⟩ := key fn_buildSliceK hk
    exact ⟨v, h1, fun st' K' he _ h' => by unfold opK; rw [hop]; dsimp only; exact buildSliceK_ev (fun p hp => ev_same he (by simp only [Op.operands]; exact List.mem_map.2 ⟨p, hp, rfl⟩)) (h2 st' K' h')⟩
  case nilCheck x =>
    obtain ⟨v, h1, h2⟩ := key fn_nilCheckK hk
    exact ⟨v, h1, fun st' K' he _ h' => by unfold opK; rw [hop]; dsimp only; rw [ev_same he (by simp [Op.operands])]; exact h2 st' K' h'⟩
  case binOp op xt x y yt =>
    obtain ⟨v, h1, h2⟩ := key (fn_binK (by simpa [isS, EqI.mk'] using ho)) hk
    exact ⟨v, h1, fun st' K' he _ h' => by unfold opK; rw [hop]; dsimp only; rw [ev_same he (x := x) (by simp [Op.operands]), ev_same he (x := y) (by simp [Op.operands])]; exact h2 st' K' h'⟩
  case unOp op xt x =>
    obtain ⟨v, h1, h2⟩ := key fn_unK hk
    exact ⟨v, h1, fun st' K' he _ h' => by unfold opK; rw [hop]; dsimp only; rw [ev_same he (by simp [Op.operands])]; exact h2 st' K' h'⟩
  case convert s t x =>
    obtain ⟨v, h1, h2⟩ := key fn_convK hk
    exact ⟨v, h1, fun st' K' he _ h' => by unfold opK; rw [hop]; dsimp only; rw [ev_same he (by simp [Op.operands])]; exact h2 st' K' h'⟩
  case makeFunc fn first caps =>
    refine ⟨_, hk.2, fun st' K' he _ h' => ?_⟩
    unfold opK; rw [hop]; dsimp only
    have e : caps.toList.map st'.ev = caps.toList.map st.ev := List.map_congr_left fun x hx => ev_same he (by simp [Op.operands]; exact .inr (by simpa using hx))
    rw [e]
    exact ⟨hk.1, h'⟩
  case fieldAddr s x f =>
    obtain ⟨v, h1, h2⟩ := key fn_fieldAddrO hk
    exact ⟨v, h1, fun st' K' he _ h' => by unfold opK; rw [hop]; dsimp only; rw [ev_same he (by simp [Op.operands])]; exact h2 st' K' h'⟩
  case field s x f =>
    obtain ⟨v, h1, h2⟩ := key fn_fieldO hk
    exact ⟨v, h1, fun st' K' he _ h' => by unfold opK; rw [hop]; dsimp only; rw [ev_same he (by simp [Op.operands])]; exact h2 st' K' h'⟩
  case index t x ix =>
    obtain ⟨v, h1, h2⟩ := key fn_indexO hk
    exact ⟨v, h1, fun st' K' he _ h' => by unfold opK; rw [hop]; dsimp only; rw [ev_same he (x := x) (by simp [Op.operands]), ev_same he (x := ix) (by simp [Op.operands])]; exact h2 st' K' h'⟩
  case extract x i =>
    obtain ⟨v, h1, h2⟩ := key fn_extractK hk
    exact ⟨v, h1, fun st' K' he _ h' => by unfold opK; rw [hop]; dsimp only; rw [ev_same he (by simp [Op.operands])]; exact h2 st' K' h'⟩

end Go.T
/- Operations apart may change places. -/
namespace Go.T
open Go

theorem St.ext {s t : St} (h1 : ∀ i, s.slots i = t.slots i) (h2 : s.hp = t.hp) : s = t := by
  cases s; cases t
  simp only at h1 h2
  subst h2
  congr
  exact funext h1

/-- As found, or new. -/
def Sub (h h' : Hp) : Prop := ∀ L, (h.con L).live → h'.con L = h.con L
/-- The variables' cells are aas they were. -/
def BlkEq (h h' : Hp) : Prop := ∀ L, isBlk (h.con L) ∨ isBlk (h'.con L) → h'.con L = h.con L
def BlkUp (h h' : Hp) : Prop := ∀ L, isBlk (h.con L) → h'.con L = h.con L

theorem isBlk.live {c : Con} (h : isBlk c) : c.live := by cases c <;> first | exact h.elim | trivial

theorem loadK_hp {h h' : Hp} (hs : Sub h h') {g : Bool} {n : Nat} {a : AV} {K : AV → Prop} (hk : loadK h g n a K) : loadK h' g n a K := by
  unfold loadK at hk ⊢
  split at hk
  · exact hk
  · rename_i L sz i j
    have hl : (h.con L).live := by
      cases hc : h.con L <;> rw [hc] at hk <;> simp only [loadC] at hk <;> trivial
    rw [hs L hl]; exact hk
  · exact hk.elim
theorem loadK_blk {h h' : Hp} (hs : BlkUp h h') {g : Bool} {n : Nat} {a : AV} {K : AV → Prop} (hb : blkK h a) (hk : loadK h g n a K) : blkK h' a ∧ loadK h' g n a K := by
  unfold loadK at hk ⊢
  unfold blkK at hb ⊢
  split at hk
  · exact ⟨trivial, hk⟩
  · rename_i L sz i j
    simp only at hb ⊢
    rw [hs L hb]; exact ⟨hb, hk⟩
  · exact hk.elim

theorem indexAddrO_hp {P : Program} {k : TK} {h h' : Hp} (hs : Sub h h') {x ix : AV} {K : AV → Prop} (hk : indexAddrO P k h x ix K) : indexAddrO P k h' x ix K := by
  have key : ∀ {o m}, indexAddrK h o m x ix K → indexAddrK h' o m x ix K := by
    intro o m hk
    unfold indexAddrK at hk ⊢
    split at hk
    · split at hk
      · exact hk
      · exact hk
      · exact hk
      · rename_i L _
        have hl : (h.con L).live := by
          cases hc : h.con L <;> rw [hc] at hk <;> simp only [indexC] at hk <;> trivial
        rw [hs L hl]; exact hk
      · rename_i L sz a n _
        rw [hs L (viewC_live hk)]; exact hk
      · exact hk.elim
    · exact hk.elim
  unfold indexAddrO at hk ⊢
  split at hk
  · exact ⟨hk.1, hk.2.1, hk.2.2.1, key hk.2.2.2⟩
  · exact ⟨hk.1, hk.2.1, key hk.2.2⟩
  · exact hk.elim
theorem lenO_hp {P : Program} {t : TypeId} {h h' : Hp} (hs : Sub h h') {x : AV} {K : AV → Prop} (hk : lenO (tk P t) h x K) : lenO (tk P t) h' x K := by
  unfold lenO at hk ⊢
  split at hk
  · exact hk
  · unfold lenK at hk ⊢
    split at hk
    · exact hk
    · rename_i L
      have hl : (h.con L).live := by
        cases hc : h.con L <;> rw [hc] at hk <;> simp only [lenC] at hk <;> trivial
      rw [hs L hl]; exact hk
    · rename_i L sz a n
      rw [hs L (viewC_live hk)]; exact hk
    · exact hk.elim
  · exact hk
  · exact hk.elim
theorem sliceO_hp {P : Program} {k : TK} {h h' : Hp} (hs : Sub h h') {x : AV} {lo hi mx : Option AV} {K : AV → Prop} (hk : sliceO P k h x lo hi mx K) : sliceO P k h' x lo hi mx K := by
  unfold sliceO at hk ⊢
  split at hk
  · rename_i L
    unfold viewP at hk ⊢
    split at hk
    · have hl : (h.con L).live := by
        have := hk.2
        cases hc : h.con L <;> rw [hc] at this <;> simp only [viewO] at this <;> trivial
      simp only [hs L hl]
      exact hk
    · exact hk.elim
  · rename_i L sz a n
    unfold viewP at hk ⊢
    split at hk
    · have hl := viewC_live hk.2.2
      simp only [hs L hl]
      exact hk
    · exact hk.elim
  · exact hk

theorem lookM_fn {h : Hp} {x : AV} {ok : Bool} {z : AV} {cs : List AV} {K : AV → Prop} (hk : lookM h x ok z cs K) : ∃ v, K v ∧ ∀ h', Sub h h' → ∀ K' : AV → Prop, K' v → lookM h' x ok z cs K' := by
  unfold lookM at hk
  split at hk
  · rename_i L
    have hl : (h.con L).live := by
      cases hc : h.con L <;> rw [hc] at hk <;> simp only [lookC] at hk <;> trivial
    unfold lookC at hk
    split at hk
    · rename_i es ck hcon
      obtain ⟨r, hf, hk⟩ := hk
      unfold lookR at hk
      split at hk
      · exact ⟨_, hk, fun h' hs K' h'' => by unfold lookM lookC; simp only [hs L hl, hcon]; exact ⟨_, hf, h''⟩⟩
      · obtain ⟨hi, hk⟩ := hk
        exact ⟨_, hk, fun h' hs K' h'' => by unfold lookM lookC; simp only [hs L hl, hcon]; exact ⟨_, hf, hi, h''⟩⟩
    · exact hk.elim
  · exact ⟨_, hk, fun h' hs K' h'' => by unfold lookM; exact h''⟩
  · exact hk.elim
theorem lookupK_fn {P : Program} {t : TypeId} {h : Hp} {x ix : AV} {ok : Bool} {K : AV → Prop} (hk : lookupK P (tk P t) h x ix ok K) : ∃ v, K v ∧ ∀ h', Sub h h' → ∀ K' : AV → Prop, K' v → lookupK P (tk P t) h' x ix ok K' := by
  unfold lookupK at hk
  split at hk
  · rename_i kt et ht
    obtain ⟨h1, hk⟩ := hk
    unfold keyK at hk
    split at hk
    · rename_i cs
      obtain ⟨h2, h3, h4, hk⟩ := hk
      obtain ⟨v, g1, g2⟩ := lookM_fn hk
      exact ⟨v, g1, fun h'' hs'' K' hK' => by unfold lookupK; rw [ht]; refine ⟨h1, ?_⟩; unfold keyK; exact ⟨h2, h3, h4, g2 h'' hs'' K' hK'⟩⟩
    · exact hk.elim
  · exact hk.elim

theorem quiet_L {P : Program} {fid : Nat} {o : Oper} (ho : isL o.op = true) : Quiet (opK P fid o) o.dst (rd o) Sub := by
  intro st K hk
  unfold opK at hk
  unfold rd
  cases hop : o.op <;> rw [hop] at ho hk <;> (try dsimp only at hk) <;> first | (simp [isL] at ho; done) | skip
  case load t x =>
    obtain ⟨v, h1, h2⟩ := fn_loadK _ hk.2
    exact ⟨v, h1, fun st' K' he hs h' => by unfold opK; rw [hop]; dsimp only; rw [ev_same he (by simp [Op.operands])]; exact ⟨hk.1, loadK_hp hs (h2 (fun v => K' (st'.put o.dst v)) h')⟩⟩
  case indexAddr t x ix =>
    obtain ⟨v, h1, h2⟩ := fn_indexAddrO _ hk
    exact ⟨v, h1, fun st' K' he hs h' => by unfold opK; rw [hop]; dsimp only; rw [ev_same he (x := x) (by simp [Op.operands]), ev_same he (x := ix) (by simp [Op.operands])]; exact indexAddrO_hp hs (h2 (fun v => K' (st'.put o.dst v)) h')⟩
  case slice t x lo hi mx =>
    obtain ⟨v, h1, h2⟩ := fn_sliceO _ hk
    refine ⟨v, h1, fun st' K' he hs h' => ?_⟩
    unfold opK; rw [hop]; dsimp only
    have e1 := ev_same he (x := x) (by simp [Op.operands])
    have e2 : lo.map st'.ev = lo.map st.ev := by cases lo with | none => rfl | some y => simp [ev_same he (x := y) (by simp [Op.operands])]
    have e3 : hi.map st'.ev = hi.map st.ev := by cases hi with | none => rfl | some y => simp [ev_same he (x := y) (by simp [Op.operands])]
    have e4 : mx.map st'.ev = mx.map st.ev := by cases mx with | none => rfl | some y => simp [ev_same he (x := y) (by simp [Op.operands])]
    rw [e1, e2, e3, e4]
    exact sliceO_hp hs (h2 (fun v => K' (st'.put o.dst v)) h')
  case lookup t x ix ok =>
    obtain ⟨v, h1, h2⟩ := lookupK_fn hk
    exact ⟨v, h1, fun st' K' he hs h' => by unfold opK; rw [hop]; dsimp only; rw [ev_same he (x := x) (by simp [Op.operands]), ev_same he (x := ix) (by simp [Op.operands])]; exact h2 _ hs (fun v => K' (st'.put o.dst v)) h'⟩
  case call c =>
    obtain ⟨callee, args, ats⟩ := c
    cases callee with
    | value f => simp [isL] at ho
    | invoke r m => simp [isL] at ho
    | builtin b =>
      cases b <;> first | (simp [isL] at ho; done) | skip
      simp only [calleeK] at hk
      split at hk
      · rename_i x t hx ht
        obtain ⟨v, h1, h2⟩ := fn_lenO _ hk
        refine ⟨v, h1, fun st' K' he hs h' => ?_⟩
        unfold opK; rw [hop]; simp only [calleeK]
        have e : args.toList.map st'.ev = args.toList.map st.ev := List.map_congr_left fun y hy => ev_same he (by simp [Op.operands, Call.operands]; simpa using hy)
        rw [e, hx, ht]
        exact lenO_hp hs (h2 (fun v => K' (st'.put o.dst v)) h')
      · exact hk.elim

theorem quiet_B {P : Program} {fid : Nat} {o : Oper} : Quiet (opT P fid .blk o) o.dst (rd o) BlkUp := by
  intro st K hk
  obtain ⟨hb, hk⟩ := hk
  unfold opK at hk
  unfold rd
  cases hop : o.op <;> rw [hop] at hb hk <;> first | exact hb.elim | skip
  rename_i t x
  simp only [blkO] at hb
  dsimp only at hk
  obtain ⟨v, h1, h2⟩ := fn_loadK _ hk.2
  refine ⟨v, h1, fun st' K' he hs h' => ?_⟩
  have := loadK_blk hs hb (h2 (fun v => K' (st'.put o.dst v)) h')
  simp only [opT]
  unfold opK
  rw [hop]; simp only [blkO]
  rw [ev_same he (x := x) (by simp [Op.operands])]
  exact ⟨this.1, hk.1, this.2⟩

theorem quiet_P {P : Program} {fid : Nat} {o : Oper} : Quiet (opT P fid .pure o) o.dst (rd o) (fun _ _ => True) := by
  intro st K hk
  simp only [opT] at hk
  unfold pureO at hk
  split at hk
  · rename_i f args ats hop
    unfold pureK at hk
    split at hk
    · rename_i g caps hf
      obtain ⟨h1, v, h2, h3⟩ := hk
      refine ⟨v, h3, fun st' K' he _ h' => ?_⟩
      have e1 : st'.ev f = st.ev f := ev_same he (by rw [hop]; simp [Op.operands, Call.operands])
      have e2 : args.toList.map st'.ev = args.toList.map st.ev := List.map_congr_left fun y hy => ev_same he (by rw [hop]; simp [Op.operands, Call.operands]; exact .inr (by simpa using hy))
      simp only [opT, hop, pureO, e1, e2, hf, pureK]
      exact ⟨h1, v, h2, h'⟩
    · exact hk.elim
  · exact hk.elim

/-- An operation with one outcome; the heap turns aas ρ says. -/
def Post (F : St → (St → Prop) → Prop) (dst : Option Nat) (rds : List Nat) (ρ : Hp → Hp → Prop) : Prop :=
  ∀ st K, F st K → ∃ v h, ρ st.hp h ∧ K ((st.withHp h).put dst v) ∧ ∀ (st' : St) (K' : St → Prop), (∀ t ∈ rds, st'.slots t = st.slots t) → st'.hp = st.hp → K' ((st'.withHp h).put dst v) → F st' K'

theorem Quiet.post {F : St → (St → Prop) → Prop} {dst : Option Nat} {rds : List Nat} {σ : Hp → Hp → Prop} (h : Quiet F dst rds σ) (hr : ∀ h, σ h h) : Post F dst rds (fun h h' => h' = h) := by
  intro st K hk
  obtain ⟨v, h1, h2⟩ := h st K hk
  refine ⟨v, st.hp, rfl, h1, fun st' K' he hh h' => h2 st' K' he (by rw [hh]; exact hr _) ?_⟩
  have e : st'.withHp st.hp = st' := by rw [← hh]; rfl
  rw [e] at h'
  exact h'

theorem put_comm {st : St} {d e : Option Nat} {u v : AV} (hne : ∀ x, d = some x → e ≠ some x) : (st.put d u).put e v = (st.put e v).put d u := by
  cases d with
  | none => simp [put_none]
  | some d =>
    cases e with
    | none => simp [put_none]
    | some e =>
      have : d ≠ e := fun h => hne d rfl (by rw [h])
      refine St.ext (fun i => ?_) (by simp [put_hp])
      simp only [put_slots]
      by_cases h1 : i = e
      · by_cases h2 : i = d
        · exact absurd (h2.symm.trans h1) this
        · simp [h1, Ne.symm this]
      · simp [h1]
theorem put_withHp {st : St} {d : Option Nat} {u : AV} {h : Hp} : (st.put d u).withHp h = (st.withHp h).put d u := by
  cases d <;> rfl

theorem agree_put {st : St} {d : Option Nat} {v : AV} {rds : List Nat} (hd : ∀ x, d = some x → x ∉ rds) : ∀ t ∈ rds, (st.put d v).slots t = st.slots t := by
  intro t ht
  cases d with
  | none => rw [put_none]
  | some d =>
    rw [put_slots, if_neg]
    intro hE; subst hE; exact hd _ rfl ht

section
variable {F G : St → (St → Prop) → Prop} {dF dG : Option Nat} {rF rG : List Nat} {σ ρ : Hp → Hp → Prop}

theorem swap_quiet_post (hF : Quiet F dF rF σ) (hG : Post G dG rG ρ) (hσ : ∀ h h', ρ h h' → σ h h') (h1 : ∀ x, dG = some x → x ∉ rF) (h2 : ∀ x, dF = some x → x ∉ rG) (h3 : ∀ x, dF = some x → dG ≠ some x)
    {st : St} {K : St → Prop} (h : F st (fun s => G s K)) : G st (fun s => F s K) := by
  obtain ⟨v, g1, g2⟩ := hF _ _ h
  obtain ⟨u, h', p1, p2, p3⟩ := hG _ _ g1
  rw [put_hp] at p1
  refine p3 st _ (fun t ht => (agree_put h2 t ht).symm) (by rw [put_hp]) ?_
  refine g2 _ _ (fun t ht => ?_) (by rw [put_hp]; exact hσ _ _ p1) ?_
  · rw [agree_put h1 t ht]; rfl
  · rw [put_withHp, put_comm h3] at p2
    exact p2

theorem swap_post_quiet (hF : Post F dF rF ρ) (hG : Quiet G dG rG σ) (hσ : ∀ h h', ρ h h' → σ h' h) (h1 : ∀ x, dG = some x → x ∉ rF) (h2 : ∀ x, dF = some x → x ∉ rG) (h3 : ∀ x, dF = some x → dG ≠ some x)
    {st : St} {K : St → Prop} (h : F st (fun s => G s K)) : G st (fun s => F s K) := by
  obtain ⟨v, h', p1, p2, p3⟩ := hF _ _ h
  obtain ⟨u, g1, g2⟩ := hG _ _ p2
  refine g2 st _ (fun t ht => ?_) (by rw [put_hp]; exact hσ _ _ p1) ?_
  · rw [agree_put h2 t ht]; rfl
  · refine p3 _ _ (fun t ht => agree_put h1 t ht) (by rw [put_hp]) ?_
    rw [put_withHp, ← put_comm h3]
    exact g1

theorem Post.mono {ρ' : Hp → Hp → Prop} (h : Post F dF rF ρ) (hr : ∀ h h', ρ h h' → ρ' h h') : Post F dF rF ρ' := by
  intro st K hk
  obtain ⟨v, h', p1, p2, p3⟩ := h _ _ hk
  exact ⟨v, h', hr _ _ p1, p2, p3⟩
end

theorem alloc_sub {h : Hp} {f s : Nat} {c : Con} : Sub h (h.alloc f s c) := by
  intro L hl
  exact alloc_con_ne (f := f) (s := s) (c := c) (by
    intro hE
    have := h.ok L (by rw [hE]; simp [Hp.fresh])
    rw [this] at hl; exact hl.elim)

theorem alloc_blk {h : Hp} {f s sz : Nat} {xs : List AV} : BlkEq h (h.alloc f s (.arr sz xs)) := by
  intro L hl
  by_cases hE : L = h.fresh f s
  · subst hE
    rw [alloc_con_eq] at hl
    rcases hl with hl | hl
    · have := h.ok (h.fresh f s) (by simp [Hp.fresh])
      rw [this] at hl; exact hl.elim
    · exact hl.elim
  · exact alloc_con_ne hE

theorem post_alloc {P : Program} {fid : Nat} {o : Oper} (ho : (∃ t, o.op = .alloc t) ∨ ∃ t x, o.op = .box t x) : Post (opK P fid o) o.dst (rd o) Sub := by
  intro st K hk
  unfold opK at hk
  unfold rd
  rcases ho with ⟨t, hop⟩ | ⟨t, x, hop⟩ <;> rw [hop] at hk <;> dsimp only at hk
  · refine ⟨_, _, alloc_sub, hk.2, fun st' K' he hh h' => ?_⟩
    unfold opK; rw [hop]; dsimp only
    rw [hh]; exact ⟨hk.1, h'⟩
  · obtain ⟨h1, h2⟩ := hk
    refine ⟨_, _, alloc_sub, h2, fun st' K' he hh h' => ?_⟩
    unfold opK; rw [hop]; dsimp only
    rw [hh, ev_same he (x := x) (by rw [hop]; simp [Op.operands])]; exact ⟨h1, h'⟩

theorem post_makeSlice {P : Program} {fid : Nat} {o : Oper} {t : TypeId} {x y : Operand} (hop : o.op = .makeSlice t x y) : Post (opK P fid o) o.dst (rd o) (fun h h' => Sub h h' ∧ BlkEq h h') := by
  intro st K hk
  unfold opK at hk
  unfold rd
  rw [hop] at hk; dsimp only at hk
  unfold makeSliceO at hk
  split at hk
  · rename_i e hte
    obtain ⟨q1, hk⟩ := hk
    unfold makeSliceK at hk
    split at hk
    · rename_i a b hx hy
      obtain ⟨q2, q3, q4, q5, q6, q7, hk⟩ := hk
      refine ⟨_, _, ⟨alloc_sub, alloc_blk⟩, hk, fun st' K' he hh h' => ?_⟩
      unfold opK; rw [hop]; dsimp only
      rw [hh, ev_same he (x := x) (by rw [hop]; simp [Op.operands]), ev_same he (x := y) (by rw [hop]; simp [Op.operands])]
      unfold makeSliceO
      rw [hte, hx, hy]
      exact ⟨q1, q2, q3, q4, q5, q6, q7, h'⟩
    · exact hk.elim
  · exact hk.elim

theorem appendX_post {h : Hp} {f s sz bytes : Nat} {x : AV} {ys : List AV} {K : AV → Hp → Prop} (hk : appendX h f s sz bytes x ys K) : ∃ v h', BlkEq h h' ∧ K v h' ∧ ∀ K' : AV → Hp → Prop, K' v h' → appendX h f s sz bytes x ys K' := by
  have own : ∀ {L : Lab} {sz' : Nat} {xs zs : List AV}, h.con L = .arr sz' xs → BlkEq h ((h.set L .none).alloc f s (.arr sz zs)) := by
    intro L sz' xs zs hcon M hM
    have hs : BlkEq h (h.set L .none) := by
      intro M hM
      by_cases hE : M = L
      · subst hE
        rw [hcon, set_con_dead] at hM
        rcases hM with h | h <;> exact h.elim
      · exact set_con_ne hE
    have ha := alloc_blk (h := h.set L .none) (f := f) (s := s) (sz := sz) (xs := zs)
    rcases hM with hM | hM
    · have e1 := hs M (.inl hM)
      rw [ha M (.inl (by rw [e1]; exact hM)), e1]
    · have e1 := ha M (.inr hM)
      rw [e1, hs M (.inr (by rw [← e1]; exact hM))]
  unfold appendX at hk
  split at hk
  · obtain ⟨q3, q4, q5, hk⟩ := hk
    exact ⟨_, _, alloc_blk, hk, fun K' h' => by unfold appendX; exact ⟨q3, q4, q5, h'⟩⟩
  · rename_i L
    unfold appendC at hk
    split at hk
    · rename_i sz'' xs hcon
      obtain ⟨q3, q4, q5, q6, hk⟩ := hk
      exact ⟨_, _, own hcon, hk, fun K' h' => by unfold appendX appendC; simp only [hcon]; exact ⟨q3, q4, q5, q6, h'⟩⟩
    · exact hk.elim
  · rename_i L sz0 a0 n0
    unfold appendW at hk
    split at hk
    · rename_i sz'' xs hcon
      obtain ⟨q3, q3', q3'', q4, q5, q6, hk⟩ := hk
      exact ⟨_, _, own hcon, hk, fun K' h' => by unfold appendX appendW; simp only [hcon]; exact ⟨q3, q3', q3'', q4, q5, q6, h'⟩⟩
    · exact hk.elim
  · exact hk.elim
theorem post_append {P : Program} {fid : Nat} {o : Oper} {args : Array Operand} {ats : Array TypeId} (hop : o.op = .call ⟨.builtin .append, args, ats⟩) : Post (opK P fid o) o.dst (rd o) BlkEq := by
  intro st K hk
  unfold opK at hk
  unfold rd
  rw [hop] at hk; simp only [calleeK] at hk
  split at hk
  · rename_i x y t u hx ht
    have rerun : ∀ {v h'}, (∀ K' : AV → Hp → Prop, K' v h' → appendO P (tk P t) (tk P u) st.hp fid (o.dst.getD 0) x y K') → ∀ (st' : St) (K' : St → Prop), (∀ q ∈ tmpsOf (o.op.operands.toList), st'.slots q = st.slots q) → st'.hp = st.hp → K' ((st'.withHp h').put o.dst v) → opK P fid o st' K' := by
      intro v h' hr st' K' he hh h''
      unfold opK; rw [hop]; simp only [calleeK]
      have e : args.toList.map st'.ev = args.toList.map st.ev := List.map_congr_left fun y hy => ev_same he (by rw [hop]; simp [Op.operands, Call.operands]; simpa using hy)
      rw [e, hx, ht, hh]
      exact hr (fun r h => K' ((st'.withHp h).put o.dst r)) h''
    unfold appendO at hk
    split at hk
    · rename_i el _ h1 h2
      obtain ⟨q1, hk⟩ := hk
      unfold appendK appendY at hk
      split at hk
      · rename_i sz' ys hel
        obtain ⟨q2, hk⟩ := hk
        obtain ⟨v, h', p1, p2, p3⟩ := appendX_post hk
        exact ⟨v, h', p1, p2, rerun fun K' h' => by unfold appendO; rw [h1, h2]; refine ⟨q1, ?_⟩; unfold appendK appendY; rw [hel]; exact ⟨q2, p3 _ h'⟩⟩
      · exact hk.elim
    · rename_i el h1 h2
      obtain ⟨q1, q2, hk⟩ := hk
      unfold appendS at hk
      split at hk
      · obtain ⟨v, h', p1, p2, p3⟩ := appendX_post hk
        exact ⟨v, h', p1, p2, rerun fun K' h' => by unfold appendO; rw [h1, h2]; refine ⟨q1, q2, ?_⟩; unfold appendS; exact p3 _ h'⟩
      · exact hk.elim
    · exact hk.elim
  · exact hk.elim

theorem post_store {P : Program} {fid : Nat} {o : Oper} {t : TypeId} {x y : Operand} (hop : o.op = .store t x y) : Post (opK P fid o) o.dst (rd o) (fun _ _ => True) := by
  intro st K hk
  unfold opK at hk
  unfold rd
  rw [hop] at hk; dsimp only at hk
  obtain ⟨q1, q2, q3, hk⟩ := hk
  have rerun : ∀ {h'}, (∀ K' : Hp → Prop, K' h' → storeP st.hp (tsz P t) (st.ev x) (st.ev y).cells K') → ∀ (st' : St) (K' : St → Prop), (∀ q ∈ tmpsOf (o.op.operands.toList), st'.slots q = st.slots q) → st'.hp = st.hp → K' ((st'.withHp h').put o.dst .un) → opK P fid o st' K' := by
    intro h' hr st' K' he hh h''
    unfold opK; rw [hop]; dsimp only
    rw [ev_same he (x := x) (by rw [hop]; simp [Op.operands]), ev_same he (x := y) (by rw [hop]; simp [Op.operands]), hh]
    exact ⟨q1, q2, q3, hr (fun h => K' ((st'.withHp h).put o.dst .un)) h''⟩
  unfold storeP at hk
  split at hk
  · rename_i L sz i j hx
    unfold storeC at hk
    split at hk
    · rename_i cs hcon
      obtain ⟨h1, h2, hk⟩ := hk
      exact ⟨.un, _, trivial, hk, rerun fun K' h' => by unfold storeP storeC; rw [hx]; simp only [hcon]; exact ⟨h1, h2, h'⟩⟩
    · rename_i T cs hcon
      obtain ⟨h1, h2, h3, hk⟩ := hk
      exact ⟨.un, _, trivial, hk, rerun fun K' h' => by unfold storeP storeC; rw [hx]; simp only [hcon]; exact ⟨h1, h2, h3, h'⟩⟩
    · rename_i sz' xs hcon
      obtain ⟨h1, hi, h2, hk⟩ := hk
      exact ⟨.un, _, trivial, hk, rerun fun K' h' => by unfold storeP storeC; rw [hx]; simp only [hcon]; exact ⟨h1, hi, h2, h'⟩⟩
    · exact hk.elim
  · exact hk.elim

theorem alloc_blk' {h : Hp} {f s : Nat} {c : Con} (hc : ¬ isBlk c) : BlkEq h (h.alloc f s c) := by
  intro L hl
  by_cases hE : L = h.fresh f s
  · subst hE
    rw [alloc_con_eq] at hl
    rcases hl with hl | hl
    · have := h.ok (h.fresh f s) (by simp [Hp.fresh])
      rw [this] at hl; exact hl.elim
    · exact absurd hl hc
  · exact alloc_con_ne hE

theorem set_mp_blk {h : Hp} {L : Lab} {es es' : List (AV × AV × Nat)} {ck ck' : Nat} (hcon : h.con L = .mp es ck) : BlkEq h (h.set L (.mp es' ck')) := by
  intro M hM
  by_cases hE : M = L
  · subst hE
    have hlive : (h.con M).live := by rw [hcon]; trivial
    rw [set_con_eq hlive, hcon] at hM
    rcases hM with h | h <;> exact h.elim
  · exact set_con_ne hE

theorem post_makeMap {P : Program} {fid : Nat} {o : Oper} {t : TypeId} {r : Option Operand} (hop : o.op = .makeMap t r) : Post (opK P fid o) o.dst (rd o) (fun h h' => Sub h h' ∧ BlkEq h h') := by
  intro st K hk
  unfold opK at hk
  rw [hop] at hk
  cases r with
  | some r => exact hk.elim
  | none =>
    dsimp only at hk
    refine ⟨_, _, ⟨alloc_sub, alloc_blk' (c := .mp [] 0) (fun h => h)⟩, hk, fun st' K' he hh h' => ?_⟩
    unfold opK; rw [hop]; dsimp only
    rw [hh]; exact h'

theorem post_mapEntry {P : Program} {fid : Nat} {o : Oper} {t : TypeId} {x y : Operand} (hop : o.op = .mapEntry t x y) : Post (opK P fid o) o.dst (rd o) BlkEq := by
  intro st K hk
  unfold opK at hk
  unfold rd
  rw [hop] at hk; dsimp only at hk
  have main : ∃ v h', BlkEq st.hp h' ∧ K ((st.withHp h').put o.dst v) ∧ ∀ K' : AV → Hp → Prop, K' v h' → mapEntryK P (tk P t) st.hp (st.ev x) (st.ev y) K' := by
    unfold mapEntryK at hk
    split at hk
    · rename_i kt et ht
      obtain ⟨h1, hk⟩ := hk
      unfold keyK at hk
      split at hk
      · rename_i cs hy
        obtain ⟨h2, h3, h4, hk⟩ := hk
        have re : ∀ {K' : AV → Hp → Prop}, entryM st.hp (st.ev x) (tzero P et) cs K' → mapEntryK P (tk P t) st.hp (st.ev x) (st.ev y) K' := by
          intro K' hK'
          unfold mapEntryK; rw [ht, hy]; refine ⟨h1, ?_⟩; unfold keyK; exact ⟨h2, h3, h4, hK'⟩
        unfold entryM at hk
        split at hk
        · rename_i L hx
          unfold entryC at hk
          split at hk
          · rename_i es ck hcon
            obtain ⟨r, hf, hk⟩ := hk
            unfold entryR at hk
            split at hk
            · refine ⟨_, _, set_mp_blk hcon, hk, fun K' hK' => ?_⟩
              have := re (K' := K') (by unfold entryM entryC; rw [hx]; dsimp only; rw [hcon]; exact ⟨_, hf, hK'⟩)
              exact this
            · obtain ⟨hi, hk⟩ := hk
              refine ⟨_, _, fun _ _ => rfl, hk, fun K' hK' => ?_⟩
              have := re (K' := K') (by unfold entryM entryC; rw [hx]; dsimp only; rw [hcon]; exact ⟨_, hf, hi, hK'⟩)
              exact this
          · exact hk.elim
        · exact hk.elim
      · exact hk.elim
    · exact hk.elim
  obtain ⟨v, h', m1, m2, m3⟩ := main
  refine ⟨v, h', m1, m2, fun st' K' he hh hK' => ?_⟩
  unfold opK; rw [hop]; dsimp only
  rw [ev_same he (x := x) (by rw [hop]; simp [Op.operands]), ev_same he (x := y) (by rw [hop]; simp [Op.operands]), hh]
  exact m3 (fun v h => K' ((st'.withHp h).put o.dst v)) hK'

theorem post_entryStore {P : Program} {fid : Nat} {o : Oper} {t : TypeId} {x s y : Operand} (hop : o.op = .entryStore t x s y) : Post (opK P fid o) o.dst (rd o) BlkEq := by
  intro st K hk
  unfold opK at hk
  unfold rd
  rw [hop] at hk; dsimp only at hk
  have main : ∃ h', BlkEq st.hp h' ∧ K ((st.withHp h').put o.dst .un) ∧ ∀ K' : Hp → Prop, K' h' → entryStoreK st.hp (st.ev x) (st.ev s) (st.ev y) K' := by
    unfold entryStoreK at hk
    split at hk
    · rename_i L b hx hs
      unfold estoreC at hk
      split at hk
      · rename_i es ck hcon
        unfold estoreR at hk
        split at hk
        · rename_i i hf
          obtain ⟨hi, hk⟩ := hk
          refine ⟨_, set_mp_blk hcon, hk, fun K' hK' => ?_⟩
          rw [hx, hs]
          unfold entryStoreK estoreC
          dsimp only
          rw [hcon]
          dsimp only
          unfold estoreR
          rw [hf]
          exact ⟨hi, hK'⟩
        · exact hk.elim
      · exact hk.elim
    · exact hk.elim
  obtain ⟨h', m1, m2, m3⟩ := main
  refine ⟨.un, h', m1, m2, fun st' K' he hh hK' => ?_⟩
  unfold opK; rw [hop]; dsimp only
  rw [ev_same he (x := x) (by rw [hop]; simp [Op.operands]), ev_same he (x := s) (by rw [hop]; simp [Op.operands]), ev_same he (x := y) (by rw [hop]; simp [Op.operands]), hh]
  exact m3 (fun h => K' ((st'.withHp h).put o.dst .un)) hK'

end Go.T
/- Regions whose order is drawn: one order stands for all. -/
namespace Go.T
open Go

/-- The slot of an operation's guard. -/
def gsl (ops : List Oper) (o : Oper) : List Nat :=
  match o.guard with
  | none => []
  | some (j, _) => (match (ops[j]?).bind (·.dst) with
    | some d => [d]
    | none => [])
def rdG (ops : List Oper) (o : Oper) : List Nat := gsl ops o ++ rd o

theorem put_same {st : St} {d : Nat} {v : AV} (h : st.slots d = v) : st.put (some d) v = st := by
  refine St.ext (fun i => ?_) (by rw [put_hp])
  rw [put_slots]
  by_cases hi : i = d
  · subst hi; rw [if_pos rfl, h]
  · rw [if_neg hi]

/-- Whether an operation runs: its guard. -/
def acts (ops : List Oper) (o : Oper) (st : St) : Option Bool :=
  match o.guard with
  | none => some true
  | some (j, want) => (match (ops[j]?).bind (·.dst) with
    | none => none
    | some d => (match st.slots d with
      | .bool b => some (b == want)
      | .un => some false
      | _ => none))

theorem stepT_acts {P : Program} {fid : Nat} {ops : List Oper} {tg : Tg} {o : Oper} {st : St} {K : St → Prop} :
    stepT P fid ops tg o st K ↔ (acts ops o st = some true ∧ opT P fid tg o st K) ∨ (acts ops o st = some false ∧ K (st.put o.dst .un)) := by
  unfold stepT acts guardG
  cases hg : o.guard with
  | none => simp
  | some p =>
    obtain ⟨j, want⟩ := p
    simp only
    cases hj : (ops[j]?).bind (·.dst) with
    | none => simp [guardO]
    | some d =>
      simp only [guardO]
      cases hv : st.slots d <;> simp only [guardK]
      case bool b =>
        by_cases hb : b = want
        · subst hb
          rw [put_same hv]
          cases b <;> simp
        · have : b = !want := by cases b <;> cases want <;> simp_all
          subst this
          rw [put_same hv]
          cases want <;> simp
      all_goals simp

theorem acts_same {ops : List Oper} {o : Oper} {st st' : St} (h : ∀ t ∈ gsl ops o, st'.slots t = st.slots t) : acts ops o st' = acts ops o st := by
  unfold acts
  unfold gsl at h
  cases hg : o.guard with
  | none => rfl
  | some p =>
    obtain ⟨j, want⟩ := p
    rw [hg] at h
    simp only at h ⊢
    cases hj : (ops[j]?).bind (·.dst) with
    | none => rfl
    | some d =>
      rw [hj] at h
      simp only
      rw [h d (by simp)]

section
variable {P : Program} {fid : Nat} {ops : List Oper} {tg : Tg} {o : Oper} {σ ρ : Hp → Hp → Prop}

theorem Quiet.step (h : Quiet (opT P fid tg o) o.dst (rd o) σ) : Quiet (stepT P fid ops tg o) o.dst (rdG ops o) σ := by
  intro st K hk
  rcases stepT_acts.1 hk with ⟨ha, hk⟩ | ⟨ha, hk⟩
  · obtain ⟨v, h1, h2⟩ := h _ _ hk
    exact ⟨v, h1, fun st' K' he hs h' => stepT_acts.2 (.inl ⟨by rw [acts_same (fun t ht => he t (List.mem_append_left _ ht))]; exact ha, h2 _ _ (fun t ht => he t (List.mem_append_right _ ht)) hs h'⟩)⟩
  · exact ⟨.un, hk, fun st' K' he _ h' => stepT_acts.2 (.inr ⟨by rw [acts_same (fun t ht => he t (List.mem_append_left _ ht))]; exact ha, h'⟩)⟩

theorem Post.step (h : Post (opT P fid tg o) o.dst (rd o) ρ) (hr : ∀ h, ρ h h) : Post (stepT P fid ops tg o) o.dst (rdG ops o) ρ := by
  intro st K hk
  rcases stepT_acts.1 hk with ⟨ha, hk⟩ | ⟨ha, hk⟩
  · obtain ⟨v, h', h0, h1, h2⟩ := h _ _ hk
    exact ⟨v, h', h0, h1, fun st' K' he hs h' => stepT_acts.2 (.inl ⟨by rw [acts_same (fun t ht => he t (List.mem_append_left _ ht))]; exact ha, h2 _ _ (fun t ht => he t (List.mem_append_right _ ht)) hs h'⟩)⟩
  · exact ⟨.un, st.hp, hr _, hk, fun st' K' he hs h' => stepT_acts.2 (.inr ⟨by rw [acts_same (fun t ht => he t (List.mem_append_left _ ht))]; exact ha, by rw [← hs] at h'; exact h'⟩)⟩
end

def isAl : Op → Bool
  | .alloc _ => true
  | .box _ _ => true
  | _ => false
def isMk : Op → Bool
  | .makeSlice _ _ _ => true
  | .makeMap _ _ => true
  | _ => false
def isMe : Op → Bool
  | .mapEntry _ _ _ => true
  | .entryStore _ _ _ _ => true
  | _ => false
def isAp : Op → Bool
  | .call ⟨.builtin .append, _, _⟩ => true
  | _ => false
def isSt : Op → Bool
  | .store _ _ _ => true
  | _ => false
def isCv : Op → Bool
  | .call ⟨.value _, _, _⟩ => true
  | _ => false

def qS (tg : Tg) (o : Oper) : Bool := match tg with
  | .plain => isS o.op
  | .pure => true
  | _ => false
def qL (tg : Tg) (o : Oper) : Bool := match tg with
  | .plain => isL o.op
  | .avoid _ => isL o.op
  | .frz => true
  | _ => false
def qB (tg : Tg) (_ : Oper) : Bool := match tg with
  | .blk => true
  | _ => false
def pSub (tg : Tg) (o : Oper) : Bool := match tg with
  | .plain => isAl o.op || isMk o.op
  | _ => false
def pBlk (tg : Tg) (o : Oper) : Bool := match tg with
  | .plain => isMk o.op || isAp o.op || isMe o.op
  | _ => false
def pAny (tg : Tg) (o : Oper) : Bool := match tg with
  | .plain => isAl o.op || isMk o.op || isAp o.op || isMe o.op || isSt o.op
  | .mine => isSt o.op
  | _ => false
def quiet (tg : Tg) (o : Oper) : Bool := qS tg o || qL tg o || qB tg o
def post (tg : Tg) (o : Oper) : Bool := quiet tg o || pAny tg o
def calls (tg : Tg) (o : Oper) : Bool := match tg with
  | .plain => isCv o.op
  | _ => false

section
variable {P : Program} {fid : Nat} {ops : List Oper} {tg : Tg} {o : Oper}

theorem qS_sound (h : qS tg o = true) : Quiet (opT P fid tg o) o.dst (rd o) (fun _ _ => True) := by
  cases tg <;> simp only [qS] at h <;> first | exact absurd h Bool.false_ne_true | skip
  · exact quiet_S h
  · exact quiet_P
theorem elems_hp {h h' : Hp} (hs : Sub h h') {y : AV} {p : Nat × List AV} (hy : elemsOf h y = some p) : elemsOf h' y = some p := by
  cases y with
  | os L =>
    have hl : (h.con L).live := by
      simp only [elemsOf] at hy
      cases hc : h.con L <;> rw [hc] at hy <;> first | trivial | cases hy
    simp only [elemsOf] at hy ⊢
    rw [hs L hl]; exact hy
  | sl L sz a n =>
    have hl : (h.con L).live := by
      simp only [elemsOf] at hy
      cases hc : h.con L <;> rw [hc] at hy <;> first | trivial | cases hy
    simp only [elemsOf] at hy ⊢
    rw [hs L hl]; exact hy
  | _ => exact hy
theorem quiet_F : Quiet (opT P fid .frz o) o.dst (rd o) Sub := by
  intro st K hk
  simp only [opT] at hk
  unfold frzO at hk
  split at hk
  · rename_i args ats hop
    unfold frzL at hk
    split at hk
    · rename_i x y t u hx ht
      unfold frzA at hk
      split at hk
      · rename_i el el' hk1 hk2
        obtain ⟨h1, hk⟩ := hk
        unfold appendY at hk
        split at hk
        · rename_i sz' ys hel
          obtain ⟨h2, hk⟩ := hk
          unfold frzX at hk
          split at hk
          · rename_i sz0
            obtain ⟨h3, h4, h5, hk⟩ := hk
            refine ⟨_, hk, fun st' K' he hs h' => ?_⟩
            have e : args.toList.map st'.ev = args.toList.map st.ev := List.map_congr_left fun y hy => ev_same he (by rw [hop]; simp [Op.operands, Call.operands]; simpa using hy)
            simp only [opT]
            unfold frzO; rw [hop]; dsimp only
            rw [e, hx, ht]
            unfold frzL frzA; dsimp only
            rw [hk1, hk2]
            refine ⟨h1, ?_⟩
            unfold appendY
            rw [elems_hp hs hel]
            exact ⟨h2, h3, h4, h5, h'⟩
          · exact hk.elim
        · exact hk.elim
      · exact hk.elim
    · exact hk.elim
  · exact hk.elim
theorem qL_sound (h : qL tg o = true) : Quiet (opT P fid tg o) o.dst (rd o) Sub := by
  cases tg <;> simp only [qL] at h <;> first | exact absurd h Bool.false_ne_true | skip
  · exact quiet_L h
  · intro st K hk
    obtain ⟨ha, hk⟩ := hk
    obtain ⟨v, h1, h2⟩ := quiet_L h _ _ hk
    refine ⟨v, h1, fun st' K' he hs h' => ⟨?_, h2 _ _ he hs h'⟩⟩
    unfold avoidO at ha ⊢
    unfold rd at he
    cases hop : o.op <;> rw [hop] at ha he <;> first | exact ha.elim | skip
    rename_i t x
    simp only at ha ⊢
    rw [ev_same he (x := x) (by simp [Op.operands])]; exact ha
  · exact quiet_F
theorem qB_sound (h : qB tg o = true) : Quiet (opT P fid tg o) o.dst (rd o) BlkUp := by
  cases tg <;> simp only [qB] at h <;> first | exact absurd h Bool.false_ne_true | skip
  exact quiet_B
theorem BlkUp.of_sub {h h' : Hp} (hs : Sub h h') : BlkUp h h' := fun L hl => hs L hl.live
theorem quiet_sound (h : quiet tg o = true) : Quiet (opT P fid tg o) o.dst (rd o) (fun h h' => h' = h) := by
  simp only [quiet, Bool.or_eq_true] at h
  have weak : ∀ {σ : Hp → Hp → Prop}, (∀ h, σ h h) → Quiet (opT P fid tg o) o.dst (rd o) σ → Quiet (opT P fid tg o) o.dst (rd o) (fun h h' => h' = h) := by
    intro σ hσ hq st K hk
    obtain ⟨v, h1, h2⟩ := hq _ _ hk
    exact ⟨v, h1, fun st' K' he hs h' => h2 _ _ he (by rw [hs]; exact hσ _) h'⟩
  rcases h with (h | h) | h
  · exact weak (fun _ => trivial) (qS_sound h)
  · exact weak (fun _ _ _ => rfl) (qL_sound h)
  · exact weak (fun _ _ _ => rfl) (qB_sound h)
theorem al_op (h : isAl o.op = true) : (∃ t, o.op = .alloc t) ∨ ∃ t x, o.op = .box t x := by
  cases hop : o.op <;> rw [hop] at h <;> first | (simp [isAl] at h; done) | skip
  · exact .inl ⟨_, rfl⟩
  · exact .inr ⟨_, _, rfl⟩
theorem mk_post (h : isMk o.op = true) : Post (opK P fid o) o.dst (rd o) (fun h h' => Sub h h' ∧ BlkEq h h') := by
  cases hop : o.op <;> rw [hop] at h <;> first | (simp [isMk] at h; done) | skip
  · exact post_makeMap hop
  · exact post_makeSlice hop
theorem me_post (h : isMe o.op = true) : Post (opK P fid o) o.dst (rd o) BlkEq := by
  cases hop : o.op <;> rw [hop] at h <;> first | (simp [isMe] at h; done) | skip
  · exact post_mapEntry hop
  · exact post_entryStore hop
theorem st_op (h : isSt o.op = true) : ∃ t x y, o.op = .store t x y := by
  cases hop : o.op <;> rw [hop] at h <;> first | (simp [isSt] at h; done) | skip
  exact ⟨_, _, _, rfl⟩
theorem ap_op (h : isAp o.op = true) : ∃ args ats, o.op = .call ⟨.builtin .append, args, ats⟩ := by
  cases hop : o.op <;> rw [hop] at h <;> first | (simp [isAp] at h; done) | skip
  rename_i c
  obtain ⟨callee, args, ats⟩ := c
  cases callee with
  | value f => simp [isAp] at h
  | invoke r m => simp [isAp] at h
  | builtin b => cases b <;> first | (simp [isAp] at h; done) | exact ⟨_, _, rfl⟩
theorem cv_op (h : isCv o.op = true) : ∃ f args ats, o.op = .call ⟨.value f, args, ats⟩ := by
  cases hop : o.op <;> rw [hop] at h <;> first | (simp [isCv] at h; done) | skip
  rename_i c
  obtain ⟨callee, args, ats⟩ := c
  cases callee with
  | value f => exact ⟨_, _, _, rfl⟩
  | invoke r m => simp [isCv] at h
  | builtin b => simp [isCv] at h

theorem pSub_sound (h : pSub tg o = true) : Post (opT P fid tg o) o.dst (rd o) Sub := by
  cases tg <;> simp only [pSub, Bool.or_eq_true] at h <;> first | exact absurd h Bool.false_ne_true | skip
  rcases h with h | h
  · exact post_alloc (al_op h)
  · exact (mk_post h).mono fun _ _ h => h.1
theorem pBlk_sound (h : pBlk tg o = true) : Post (opT P fid tg o) o.dst (rd o) BlkEq := by
  cases tg <;> simp only [pBlk, Bool.or_eq_true] at h <;> first | exact absurd h Bool.false_ne_true | skip
  rcases h with (h | h) | h
  · exact (mk_post h).mono fun _ _ h => h.2
  · obtain ⟨args, ats, hop⟩ := ap_op h
    exact post_append hop
  · exact me_post h
theorem mine_store {t : TypeId} {x y : Operand} (hop : o.op = .store t x y) : Post (opT P fid .mine o) o.dst (rd o) (fun h h' => ∀ L, ¬ (L.f = fid ∧ x = .tmp L.s) → h'.con L = h.con L) := by
  intro st K hk
  obtain ⟨ha, hk⟩ := hk
  unfold mineO at ha
  rw [hop] at ha
  cases x with
  | tmp q =>
    simp only at ha
    have hk' := hk
    unfold opK at hk'
    rw [hop] at hk'
    simp only at hk'
    obtain ⟨q1, q2, q3, hk'⟩ := hk'
    obtain ⟨v, h', _, p2, p3⟩ := post_store hop _ _ hk
    -- the heap behind the store
    have main : ∃ h', (∀ L, ¬ (L.f = fid ∧ Operand.tmp q = .tmp L.s) → h'.con L = st.hp.con L) ∧ K ((st.withHp h').put o.dst .un) ∧ ∀ K' : Hp → Prop, K' h' → storeP st.hp (tsz P t) (st.ev (.tmp q)) (st.ev y).cells K' := by
      unfold storeP at hk'
      unfold mineK at ha
      simp only [St.ev] at hk' ⊢
      split at hk'
      · rename_i L sz i j hx
        rw [hx] at ha
        have hne : ∀ {c : Con} (M : Lab), ¬ (M.f = fid ∧ Operand.tmp q = .tmp M.s) → (st.hp.set L c).con M = st.hp.con M := by
          intro c M hM
          apply set_con_ne
          intro hE
          subst hE
          exact hM ⟨ha.1, by rw [ha.2]⟩
        unfold storeC at hk'
        split at hk'
        · rename_i cs hcon
          obtain ⟨h1, h2, hk'⟩ := hk'
          exact ⟨_, fun M hM => hne M hM, hk', fun K' h' => by rw [hx]; unfold storeP storeC; dsimp only; rw [hcon]; exact ⟨h1, h2, h'⟩⟩
        · rename_i T cs hcon
          obtain ⟨h1, h2, h3, hk'⟩ := hk'
          exact ⟨_, fun M hM => hne M hM, hk', fun K' h' => by rw [hx]; unfold storeP storeC; dsimp only; rw [hcon]; exact ⟨h1, h2, h3, h'⟩⟩
        · rename_i sz' xs hcon
          obtain ⟨h1, hi, h2, hk'⟩ := hk'
          exact ⟨_, fun M hM => hne M hM, hk', fun K' h' => by rw [hx]; unfold storeP storeC; dsimp only; rw [hcon]; exact ⟨h1, hi, h2, h'⟩⟩
        · exact hk'.elim
      · exact hk'.elim
    obtain ⟨h'', m1, m2, m3⟩ := main
    refine ⟨.un, h'', m1, m2, fun st' K' he hh hK' => ?_⟩
    unfold rd at he
    have e1 : st'.ev (.tmp q) = st.ev (.tmp q) := ev_same he (by rw [hop]; simp [Op.operands])
    have e2 : st'.ev y = st.ev y := ev_same he (by rw [hop]; simp [Op.operands])
    refine ⟨?_, ?_⟩
    · unfold mineO; rw [hop]; simp only
      have : st'.slots q = st.slots q := e1
      rw [this]; exact ha
    · unfold opK; rw [hop]; dsimp only
      rw [e1, e2, hh]
      exact ⟨q1, q2, q3, m3 (fun h => K' ((st'.withHp h).put o.dst .un)) hK'⟩
  | _ => exact ha.elim

theorem post_sound (h : post tg o = true) : Post (opT P fid tg o) o.dst (rd o) (fun _ _ => True) := by
  simp only [post, Bool.or_eq_true] at h
  rcases h with h | h
  · exact ((quiet_sound h).post (fun _ => rfl)).mono fun _ _ _ => trivial
  · cases tg <;> simp only [pAny, Bool.or_eq_true] at h <;> first | exact absurd h Bool.false_ne_true | skip
    · rcases h with (((h | h) | h) | h) | h
      · exact (post_alloc (al_op h)).mono fun _ _ _ => trivial
      · exact (mk_post h).mono fun _ _ _ => trivial
      · obtain ⟨args, ats, hop⟩ := ap_op h
        exact (post_append hop).mono fun _ _ _ => trivial
      · exact (me_post h).mono fun _ _ _ => trivial
      · obtain ⟨t, x, y, hop⟩ := st_op h
        exact post_store hop
    · obtain ⟨t, x, y, hop⟩ := st_op h
      exact (mine_store hop).mono fun _ _ _ => trivial

theorem calls_mono (h : calls tg o = true) {st : St} {K K' : St → Prop} (hk : opT P fid tg o st K) (hK : ∀ s, K s → K' s) : opT P fid tg o st K' := by
  cases tg <;> simp only [calls] at h <;> first | exact absurd h Bool.false_ne_true | skip
  obtain ⟨f, args, ats, hop⟩ := cv_op h
  simp only [opT] at hk ⊢
  unfold opK at hk ⊢
  rw [hop] at hk ⊢
  simp only [calleeK, Callee.ev] at hk ⊢
  unfold callV at hk ⊢
  split at hk
  · exact ⟨hk.1, hk.2.mono fun _ _ h => hK _ h⟩
  · exact hk.mono fun _ _ h => hK _ h
  · exact hk.elim

theorem step_mono (h : (post tg o || calls tg o) = true) {st : St} {K K' : St → Prop} (hk : stepT P fid ops tg o st K) (hK : ∀ s, K s → K' s) : stepT P fid ops tg o st K' := by
  rcases stepT_acts.1 hk with ⟨ha, hk⟩ | ⟨ha, hk⟩
  · refine stepT_acts.2 (.inl ⟨ha, ?_⟩)
    simp only [Bool.or_eq_true] at h
    rcases h with h | h
    · obtain ⟨v, h', _, h1, h2⟩ := post_sound h _ _ hk
      exact h2 st K' (fun _ _ => rfl) rfl (hK _ h1)
    · exact calls_mono h hk hK
  · exact stepT_acts.2 (.inr ⟨ha, hK _ hk⟩)

end

end Go.T
/- Regions whose order is drawn, second part: any order that the edges allow comes to the one of the numbers. -/
namespace Go.T
open Go
set_option linter.unusedSimpArgs false

/-- Two operations of which neither writes what the other reads or writes. -/
def noConf (ops : List Oper) (x i : Oper) : Bool :=
  (match i.dst with | some d => !(rdG ops x).contains d | none => true) &&
  (match x.dst with | some d => !(rdG ops i).contains d && !(i.dst == some d) | none => true)

theorem noConf_spec {ops : List Oper} {x i : Oper} (h : noConf ops x i = true) :
    (∀ d, i.dst = some d → d ∉ rdG ops x) ∧ (∀ d, x.dst = some d → d ∉ rdG ops i) ∧ (∀ d, x.dst = some d → i.dst ≠ some d) := by
  unfold noConf at h
  simp only [Bool.and_eq_true] at h
  obtain ⟨h1, h2⟩ := h
  refine ⟨fun d hd => ?_, fun d hd => ?_, fun d hd => ?_⟩
  · rw [hd] at h1; simpa using h1
  · rw [hd] at h2; simp only [Bool.and_eq_true] at h2; simpa using h2.1
  · rw [hd] at h2; simp only [Bool.and_eq_true] at h2; simpa using h2.2

def apart2 (tx ti : Tg) (x i : Oper) : Bool :=
  (match tx, ti with
    | .avoid ss, .mine => isL x.op && isSt i.op && (match x.op, i.op with | .load _ _, .store _ (.tmp q) _ => ss.contains q | _, _ => false)
    | _, _ => false)
def al2 (tx ti : Tg) (x i : Oper) : Bool :=
  (match tx, ti with
    | .plain, .plain => isAl x.op && isAl i.op && x.guard.isNone && i.guard.isNone && x.dst.isSome && i.dst.isSome
    | _, _ => false)

/-- A map's element is read, and its entry is looked for: the same map, the same key. -/
def lkme (tx ti : Tg) (x i : Oper) : Bool :=
  (match tx, ti with
    | .plain, .plain => x.guard.isNone && i.guard.isNone && x.dst.isSome && i.dst.isSome && (match x.op, i.op with
      | .lookup t (.tmp m) (.tmp k) false, .mapEntry t' (.tmp m') (.tmp k') => t == t' && m == m' && k == k'
      | _, _ => false)
    | _, _ => false)

/-- Whether the later operation may go ahead of the earlier one. -/
def pairOK (ops : List Oper) (tx ti : Tg) (x i : Oper) : Bool :=
  noConf ops x i && ((qS tx x && post ti i) || (qL tx x && (quiet ti i || pSub ti i)) || (qB tx x && (quiet ti i || pSub ti i || pBlk ti i)) ||
    (post tx x && qS ti i) || (quiet tx x && quiet ti i) || (pBlk tx x && qB ti i) || apart2 tx ti x i || al2 tx ti x i || lkme tx ti x i)

section
variable {P : Program} {fid : Nat} {ops : List Oper}

theorem fresh_alloc {h : Hp} {f s s' : Nat} {c : Con} (hne : s ≠ s') : (h.alloc f s c).fresh f s' = h.fresh f s' := by
  simp [Hp.fresh, Hp.alloc, Ne.symm hne]
theorem alloc_comm {h : Hp} {f s s' : Nat} {c c' : Con} (hne : s ≠ s') : (h.alloc f s c).alloc f s' c' = (h.alloc f s' c').alloc f s c := by
  unfold Hp.alloc
  congr 1
  · funext M
    simp only
    by_cases h1 : M = ⟨f, s', h.cnt f s'⟩
    · subst h1
      simp [Ne.symm hne]
    · by_cases h2 : M = ⟨f, s, h.cnt f s⟩
      · subst h2
        simp [hne]
      · simp [h1, h2, hne, Ne.symm hne]
  · funext g t
    simp only
    by_cases h1 : g = f ∧ t = s'
    · obtain ⟨rfl, rfl⟩ := h1
      simp [Ne.symm hne]
    · by_cases h2 : g = f ∧ t = s
      · obtain ⟨rfl, rfl⟩ := h2
        simp [hne]
      · simp [h1, h2]

/-- A new variable: what it holds hangs on the operands alone. -/
def AlF (fid : Nat) (F : St → (St → Prop) → Prop) (d : Nat) (rds : List Nat) : Prop :=
  ∀ st K, F st K → ∃ c, K ((st.withHp (st.hp.alloc fid d c)).put (some d) (.pt (st.hp.fresh fid d) 0 0 0)) ∧
    ∀ (st' : St) (K' : St → Prop), (∀ t ∈ rds, st'.slots t = st.slots t) → K' ((st'.withHp (st'.hp.alloc fid d c)).put (some d) (.pt (st'.hp.fresh fid d) 0 0 0)) → F st' K'

theorem al_form {o : Oper} {d : Nat} (ho : isAl o.op = true) (hd : o.dst = some d) (hg : o.guard = none) : AlF fid (stepT P fid ops .plain o) d (rdG ops o) := by
  intro st K hk
  have hs : ∀ {st K}, stepT P fid ops .plain o st K = opK P fid o st K := by intro st K; simp [stepT, guardG, hg, opT]
  rw [hs] at hk
  unfold opK at hk
  rcases al_op ho with ⟨t, hop⟩ | ⟨t, x, hop⟩ <;> rw [hop] at hk <;> dsimp only at hk <;> rw [hd] at hk
  · refine ⟨_, hk.2, fun st' K' he h' => ?_⟩
    rw [hs]; unfold opK; rw [hop, hd]; exact ⟨hk.1, h'⟩
  · obtain ⟨h1, h2⟩ := hk
    refine ⟨_, h2, fun st' K' he h' => ?_⟩
    rw [hs]; unfold opK; rw [hop, hd]; dsimp only
    have he' : ∀ t ∈ tmpsOf o.op.operands.toList, st'.slots t = st.slots t := fun t ht => he t (List.mem_append_right _ ht)
    rw [ev_same he' (x := x) (by rw [hop]; simp [Op.operands])]; exact ⟨h1, h'⟩

theorem swap_al {F G : St → (St → Prop) → Prop} {dF dG : Nat} {rF rG : List Nat} (hF : AlF fid F dF rF) (hG : AlF fid G dG rG) (h1 : dG ∉ rF) (h2 : dF ∉ rG) (h3 : dF ≠ dG) {st : St} {K : St → Prop} (h : F st (fun s => G s K)) : G st (fun s => F s K) := by
  obtain ⟨c, p1, p2⟩ := hF _ _ h
  obtain ⟨c', q1, q2⟩ := hG _ _ p1
  refine q2 st _ (fun t ht => ?_) (p2 _ _ (fun t ht => ?_) ?_)
  · rw [agree_put (d := some dF) (by rintro x hx; injection hx with hx; subst hx; exact h2) t ht]; rfl
  · rw [agree_put (d := some dG) (by rintro x hx; injection hx with hx; subst hx; exact h1) t ht]; rfl
  · have e : (((st.withHp (st.hp.alloc fid dG c')).put (some dG) (.pt (st.hp.fresh fid dG) 0 0 0)).withHp (((st.withHp (st.hp.alloc fid dG c')).put (some dG) (.pt (st.hp.fresh fid dG) 0 0 0)).hp.alloc fid dF c)).put (some dF)
        (.pt (((st.withHp (st.hp.alloc fid dG c')).put (some dG) (.pt (st.hp.fresh fid dG) 0 0 0)).hp.fresh fid dF) 0 0 0) =
      (((st.withHp (st.hp.alloc fid dF c)).put (some dF) (.pt (st.hp.fresh fid dF) 0 0 0)).withHp (((st.withHp (st.hp.alloc fid dF c)).put (some dF) (.pt (st.hp.fresh fid dF) 0 0 0)).hp.alloc fid dG c')).put (some dG)
        (.pt (((st.withHp (st.hp.alloc fid dF c)).put (some dF) (.pt (st.hp.fresh fid dF) 0 0 0)).hp.fresh fid dG) 0 0 0) := by
      refine St.ext (fun i => ?_) ?_
      · simp only [put_slots, withHp_slots, put_hp, withHp_hp]
        rw [fresh_alloc (Ne.symm h3), fresh_alloc h3]
        by_cases hi : i = dF
        · subst hi; simp [h3]
        · simp [hi]
      · simp only [put_hp, withHp_hp]
        exact alloc_comm (Ne.symm h3)
    rw [e]; exact q1

theorem avoid_quiet {ss : List Nat} {o : Oper} : Quiet (opT P fid (.avoid ss) o) o.dst (rd o) (fun h h' => ∀ L, ¬ (L.f = fid ∧ L.s ∈ ss) → h'.con L = h.con L) := by
  intro st K hk
  obtain ⟨ha, hk⟩ := hk
  unfold avoidO at ha
  cases hop : o.op <;> rw [hop] at ha <;> first | exact ha.elim | skip
  rename_i t x
  simp only at ha
  unfold opK at hk
  rw [hop] at hk
  dsimp only at hk
  obtain ⟨v, h1, h2⟩ := fn_loadK _ hk.2
  refine ⟨v, h1, fun st' K' he hs h' => ?_⟩
  unfold rd at he
  have e1 : st'.ev x = st.ev x := ev_same he (by rw [hop]; simp [Op.operands])
  refine ⟨by unfold avoidO; rw [hop]; simp only; rw [e1]; exact ha, ?_⟩
  unfold opK; rw [hop]; dsimp only
  rw [e1]
  refine ⟨hk.1, ?_⟩
  have := h2 (fun v => K' (st'.put o.dst v)) h'
  unfold loadK at this ⊢
  unfold avoidK at ha
  split at this
  · exact this
  · rename_i L sz i j hx
    rw [hx] at ha
    simp only at ha
    rw [hs L (fun ⟨q1, q2⟩ => ha q1 q2)]; exact this
  · exact this.elim

theorem cellsEq_self : ∀ cs : List AV, cs.all AV.isInt = true → cellsEq cs cs = some true := by
  intro cs
  induction cs with
  | nil => intro _; rfl
  | cons c r ih =>
    intro h
    rw [List.all_cons, Bool.and_eq_true] at h
    cases c <;> simp only [AV.isInt, Bool.false_eq_true, false_and] at h
    simp [cellsEq, ih h.2]
theorem findM_app {cs : List AV} {e : AV × AV × Nat} (he : keyEq cs e.1 = some true) : ∀ (es : List (AV × AV × Nat)) (n : Nat), findM cs es n = some .none → findM cs (es ++ [e]) n = some (some (n + es.length)) := by
  intro es
  induction es with
  | nil => intro n _; simp [findM, he]
  | cons a r ih =>
    intro n h
    simp only [findM, List.cons_append] at h ⊢
    cases hk : keyEq cs a.1 with
    | none => rw [hk] at h; cases h
    | some b =>
      rw [hk] at h
      cases b with
      | true => simp at h
      | false =>
        simp only at h ⊢
        rw [ih (n + 1) h]
        simp; omega
theorem swap_lkme {x i : Oper} {t : TypeId} {m k d d' : Nat} (ox : x.op = .lookup t (.tmp m) (.tmp k) false) (oi : i.op = .mapEntry t (.tmp m) (.tmp k)) (hd : x.dst = some d) (hd' : i.dst = some d') (m1 : d ≠ m ∧ d ≠ k) (m2 : d' ≠ m ∧ d' ≠ k) (hne : d ≠ d')
    {st : St} {K : St → Prop} (hk : opK P fid x st (fun s => opK P fid i s K)) : opK P fid i st (fun s => opK P fid x s K) := by
  unfold opK at hk ⊢
  rw [ox] at hk
  rw [oi]
  dsimp only at hk ⊢
  simp only [opK, ox, oi, hd, hd'] at hk ⊢
  have fin : ∀ (v w : AV) (h' : Hp), (((st.put (some d) v).withHp h').put (some d') w) = (((st.withHp h').put (some d') w).put (some d) v) := by
    intro v w h'
    refine St.ext (fun j => ?_) rfl
    simp only [put_slots, withHp_slots]
    by_cases h1 : j = d'
    · subst h1; simp [Ne.symm hne]
    · simp [h1]
  unfold lookupK at hk
  unfold mapEntryK
  cases hT : tk P t <;> rw [hT] at hk <;> try exact hk.elim
  rename_i kt et
  simp only at hk ⊢
  obtain ⟨ht, hk⟩ := hk
  refine ⟨ht, ?_⟩
  have e1 : ∀ v, (st.put (some d) v).ev (.tmp m) = st.ev (.tmp m) := fun v => by simp [St.ev, St.put, Ne.symm m1.1]
  have e2 : ∀ v, (st.put (some d) v).ev (.tmp k) = st.ev (.tmp k) := fun v => by simp [St.ev, St.put, Ne.symm m1.2]
  have e3 : ∀ h' w, ((st.withHp h').put (some d') w).ev (.tmp m) = st.ev (.tmp m) := fun h' w => by simp [St.ev, St.put, St.withHp, Ne.symm m2.1]
  have e4 : ∀ h' w, ((st.withHp h').put (some d') w).ev (.tmp k) = st.ev (.tmp k) := fun h' w => by simp [St.ev, St.put, St.withHp, Ne.symm m2.2]
  simp only [e1, e2, e3, e4] at hk ⊢
  unfold keyK at hk ⊢
  cases hx : st.ev (.tmp k) <;> rw [hx] at hk <;> try exact hk.elim
  rename_i cs
  simp only at hk ⊢
  obtain ⟨k1, k2, k3, hk⟩ := hk
  refine ⟨k1, k2, k3, ?_⟩
  unfold lookM at hk
  unfold entryM
  cases hm : st.ev (.tmp m) <;> rw [hm] at hk <;> try exact hk.elim
  · -- a nil map
    simp only [mres] at hk
    unfold mapEntryK at hk
    simp only [hT, keyK, hx, entryM] at hk
    exact hk.2.2.2.2.elim
  rename_i L
  simp only at hk ⊢
  unfold lookC at hk
  unfold entryC
  cases hc : st.hp.con L <;> rw [hc] at hk <;> try exact hk.elim
  rename_i es ck
  simp only at hk ⊢
  obtain ⟨r, f1, hk⟩ := hk
  unfold lookR at hk
  cases r with
  | none =>
    simp only [mres, Bool.false_eq_true, if_false] at hk
    unfold mapEntryK at hk
    simp only [hT, keyK, hx, entryM, hm, entryC, put_hp, hc] at hk
    obtain ⟨_, _, _, _, r2, f2, hk⟩ := hk
    rw [f1] at f2
    obtain rfl : r2 = none := by injection f2 with f2; exact f2.symm
    refine ⟨none, f1, ?_⟩
    simp only [entryR] at hk ⊢
    unfold lookupK
    simp only [hT, keyK, hx, lookM, hm, lookC, put_hp, withHp_hp]
    refine ⟨ht, k1, k2, k3, ?_⟩
    have hcon : (st.hp.set L (.mp (es ++ [(.agg cs, tzero P et, ck)]) (ck + 1))).con L = .mp (es ++ [(.agg cs, tzero P et, ck)]) (ck + 1) := by simp [Hp.set, hc, Con.keep]
    rw [hcon]
    refine ⟨some es.length, by have := findM_app (e := (.agg cs, tzero P et, ck)) (by simp only [keyEq]; exact cellsEq_self cs k3) es 0 f1; simpa using this, ?_⟩
    simp only [lookR]
    refine ⟨by simp, ?_⟩
    rw [← fin]
    simpa [mres] using hk
  | some j =>
    simp only at hk
    obtain ⟨hj, hk⟩ := hk
    unfold mapEntryK at hk
    simp only [hT, keyK, hx, entryM, hm, entryC, put_hp, hc] at hk
    obtain ⟨_, _, _, _, r2, f2, hk⟩ := hk
    rw [f1] at f2
    obtain rfl : r2 = some j := by injection f2 with f2; exact f2.symm
    refine ⟨some j, f1, ?_⟩
    simp only [entryR] at hk ⊢
    obtain ⟨_, hk⟩ := hk
    refine ⟨hj, ?_⟩
    unfold lookupK
    simp only [hT, keyK, hx, lookM, hm, lookC, put_hp, withHp_hp, hc]
    refine ⟨ht, k1, k2, k3, some j, f1, ?_⟩
    simp only [lookR]
    refine ⟨hj, ?_⟩
    rw [← fin]
    simpa [mres] using hk

theorem pair_swap {tx ti : Tg} {x i : Oper} (h : pairOK ops tx ti x i = true) {st : St} {K : St → Prop} (hk : stepT P fid ops tx x st (fun s => stepT P fid ops ti i s K)) : stepT P fid ops ti i st (fun s => stepT P fid ops tx x s K) := by
  unfold pairOK at h
  rw [Bool.and_eq_true] at h
  obtain ⟨hc, h⟩ := h
  obtain ⟨c1, c2, c3⟩ := noConf_spec hc
  simp only [Bool.or_eq_true, Bool.and_eq_true] at h
  have qpost : ∀ {tg o}, quiet tg o = true → Post (stepT P fid ops tg o) o.dst (rdG ops o) (fun h h' => h' = h) := fun hq => ((quiet_sound hq).post (fun _ => rfl)).step (fun _ => rfl)
  have anyp : ∀ {tg o}, post tg o = true → Post (stepT P fid ops tg o) o.dst (rdG ops o) (fun _ _ => True) := fun hq => (post_sound hq).step (fun _ => trivial)
  have subp : ∀ {tg o}, pSub tg o = true → Post (stepT P fid ops tg o) o.dst (rdG ops o) Sub := fun hq => (pSub_sound hq).step (fun _ _ _ => rfl)
  have blkp : ∀ {tg o}, pBlk tg o = true → Post (stepT P fid ops tg o) o.dst (rdG ops o) BlkEq := fun hq => (pBlk_sound hq).step (fun _ _ _ => rfl)
  rcases h with ((((((((⟨h1, h2⟩ | ⟨h1, h2⟩) | ⟨h1, h2⟩) | ⟨h1, h2⟩) | ⟨h1, h2⟩) | ⟨h1, h2⟩) | h1) | h1) | h1)
  · exact swap_quiet_post (qS_sound h1).step (anyp h2) (fun _ _ _ => trivial) c1 c2 c3 hk
  · rcases h2 with h2 | h2
    · exact swap_quiet_post (qL_sound h1).step (qpost h2) (fun _ _ e _ _ => by rw [e]) c1 c2 c3 hk
    · exact swap_quiet_post (qL_sound h1).step (subp h2) (fun _ _ e => e) c1 c2 c3 hk
  · rcases h2 with (h2 | h2) | h2
    · exact swap_quiet_post (qB_sound h1).step (qpost h2) (fun _ _ e _ _ => by rw [e]) c1 c2 c3 hk
    · exact swap_quiet_post (qB_sound h1).step (subp h2) (fun _ _ e => BlkUp.of_sub e) c1 c2 c3 hk
    · exact swap_quiet_post (qB_sound h1).step (blkp h2) (fun _ _ e L hL => e L (.inl hL)) c1 c2 c3 hk
  · exact swap_post_quiet (anyp h1) (qS_sound h2).step (fun _ _ _ => trivial) c1 c2 c3 hk
  · exact swap_post_quiet (qpost h1) (quiet_sound h2).step (fun _ _ e => e.symm) c1 c2 c3 hk
  · exact swap_post_quiet (blkp h1) (qB_sound h2).step (fun _ _ e L hL => (e L (.inr hL)).symm) c1 c2 c3 hk
  · unfold apart2 at h1
    cases tx <;> cases ti <;> first | exact absurd h1 Bool.false_ne_true | skip
    rename_i ss
    simp only [Bool.and_eq_true] at h1
    obtain ⟨⟨g1, g2⟩, g3⟩ := h1
    obtain ⟨t, a, y, hop⟩ := st_op g2
    split at g3
    · rename_i q _ _ hop'
      rw [hop] at hop'
      injection hop' with e1 e2 e3
      subst e2
      refine swap_quiet_post avoid_quiet.step ((mine_store hop).step (fun _ _ _ => rfl)) ?_ c1 c2 c3 hk
      intro h h' e L hL
      refine e L (fun ⟨q1, q2⟩ => hL ⟨q1, ?_⟩)
      injection q2 with q2
      subst q2
      simpa using g3
    · exact absurd g3 Bool.false_ne_true
  · unfold al2 at h1
    cases tx <;> cases ti <;> first | exact absurd h1 Bool.false_ne_true | skip
    simp only [Bool.and_eq_true, Option.isNone_iff_eq_none] at h1
    obtain ⟨⟨⟨⟨⟨g1, g2⟩, g3⟩, g4⟩, g5⟩, g6⟩ := h1
    obtain ⟨d, hd⟩ := Option.isSome_iff_exists.1 g5
    obtain ⟨d', hd'⟩ := Option.isSome_iff_exists.1 g6
    exact swap_al (al_form g1 hd g3) (al_form g2 hd' g4) (c1 _ hd') (c2 _ hd) (fun e => c3 _ hd (by rw [hd', e])) hk

  · unfold lkme at h1
    cases tx <;> cases ti <;> first | exact absurd h1 Bool.false_ne_true | skip
    simp only [Bool.and_eq_true, Option.isNone_iff_eq_none] at h1
    obtain ⟨⟨⟨⟨g1, g2⟩, g3⟩, g4⟩, g5⟩ := h1
    obtain ⟨d, hd⟩ := Option.isSome_iff_exists.1 g3
    obtain ⟨d', hd'⟩ := Option.isSome_iff_exists.1 g4
    split at g5
    · rename_i t m k t' m' k' ox oi
      simp only [Bool.and_eq_true, beq_iff_eq] at g5
      obtain ⟨⟨rfl, rfl⟩, rfl⟩ := g5
      have m1 : d ≠ m ∧ d ≠ k := by
        have := c2 d hd
        unfold rdG rd at this
        rw [oi] at this
        constructor <;> (rintro rfl; exact this (List.mem_append_right _ (by simp [Op.operands, tmpsOf])))
      have m2 : d' ≠ m ∧ d' ≠ k := by
        have := c1 d' hd'
        unfold rdG rd at this
        rw [ox] at this
        constructor <;> (rintro rfl; exact this (List.mem_append_right _ (by simp [Op.operands, tmpsOf])))
      have hsx : ∀ {st K}, stepT P fid ops .plain x st K = opK P fid x st K := by intro st K; simp [stepT, guardG, g1, opT]
      have hsi : ∀ {st K}, stepT P fid ops .plain i st K = opK P fid i st K := by intro st K; simp [stepT, guardG, g2, opT]
      rw [hsx] at hk
      simp only [hsi] at hk
      rw [hsi]
      simp only [hsx]
      exact swap_lkme ox oi hd hd' m1 m2 (fun e => c3 _ hd (by rw [hd', e])) hk
    · exact absurd g5 Bool.false_ne_true

/-- The i-th operation. -/
def stepAt (P : Program) (fid : Nat) (ops : List Oper) (tg : Nat → Tg) (i : Nat) (st : St) (K : St → Prop) : Prop :=
  match ops[i]? with
  | none => K st
  | some o => stepT P fid ops (tg i) o st K

theorem runL_cons {tg : Nat → Tg} {i : Nat} {r : List Nat} {st : St} {K : St → Prop} : runL P fid ops tg (i :: r) st K = stepAt P fid ops tg i st (fun s => runL P fid ops tg r s K) := by
  first
    | rfl
    | (simp only [runL, stepAt]; done)
    | (simp only [runL, stepAt]; cases ops[i]? <;> rfl)

def opOK (tg : Tg) (o : Oper) : Bool := post tg o || calls tg o

theorem stepAt_mono {tg : Nat → Tg} (hok : ∀ i o, ops[i]? = some o → opOK (tg i) o = true) {i : Nat} {st : St} {K K' : St → Prop} (h : stepAt P fid ops tg i st K) (hK : ∀ s, K s → K' s) : stepAt P fid ops tg i st K' := by
  unfold stepAt at *
  cases ho : ops[i]? with
  | none => rw [ho] at h; exact hK _ h
  | some o => rw [ho] at h; exact step_mono (hok i o ho) h hK

theorem bubble {tg : Nat → Tg} (hok : ∀ i o, ops[i]? = some o → opOK (tg i) o = true) {i : Nat} {l2 : List Nat} {K : St → Prop} : ∀ (l1 : List Nat) (st : St), (∀ x ∈ l1, ∀ (st : St) (K : St → Prop), stepAt P fid ops tg x st (fun s => stepAt P fid ops tg i s K) → stepAt P fid ops tg i st (fun s => stepAt P fid ops tg x s K)) →
    runL P fid ops tg (l1 ++ i :: l2) st K → stepAt P fid ops tg i st (fun s => runL P fid ops tg (l1 ++ l2) s K) := by
  intro l1
  induction l1 with
  | nil => intro st _ h; rw [List.nil_append, runL_cons] at h; exact h
  | cons x l1 ih =>
    intro st hs h
    rw [List.cons_append, runL_cons] at h
    have h1 := stepAt_mono hok h (fun s hs' => ih s (fun y hy => hs y (by simp [hy])) hs')
    have h2 := hs x (by simp) _ _ h1
    exact stepAt_mono hok h2 (fun s hs' => by rw [List.cons_append, runL_cons]; exact hs')

end

/-- The edges that bind whatever order is drawn. -/
def hard (o : Oper) : List Nat := (o.after.toList.filter (fun e => Region.binds .any e)).map (·.on)

/-- Behind which operations each one stands, through others too: aas the bits of a number. -/
def maskOf (acc : List Nat) (ps : List Nat) : Nat := ps.foldl (fun m p => m ||| (1 <<< p) ||| acc.getD p 0) 0
def masks : List Oper → List Nat → List Nat
  | [], acc => acc
  | o :: r, acc => masks r (acc ++ [maskOf acc (hard o)])

theorem maskOf_bit {acc ps : List Nat} {x : Nat} (h : (maskOf acc ps).testBit x = true) : ∃ p ∈ ps, x = p ∨ (acc.getD p 0).testBit x = true := by
  unfold maskOf at h
  have gen : ∀ (ps : List Nat) (m : Nat), (ps.foldl (fun m p => m ||| (1 <<< p) ||| acc.getD p 0) m).testBit x = true → m.testBit x = true ∨ ∃ p ∈ ps, x = p ∨ (acc.getD p 0).testBit x = true := by
    intro ps
    induction ps with
    | nil => intro m h; exact .inl h
    | cons p ps ih =>
      intro m h
      rcases ih _ h with h | ⟨q, hq, h⟩
      · simp only [Nat.testBit_or, Bool.or_eq_true] at h
        rcases h with (h | h) | h
        · exact .inl h
        · refine .inr ⟨p, by simp, .inl ?_⟩
          rw [Nat.one_shiftLeft, Nat.testBit_two_pow] at h
          simpa using (of_decide_eq_true h).symm
        · exact .inr ⟨p, by simp, .inr h⟩
      · exact .inr ⟨q, by simp [hq], h⟩
  rcases gen ps 0 h with h | h
  · simp at h
  · exact h

/-- Operations behind which the i-th stands are done once the i-th may come up. -/
theorem masks_spec : ∀ (ops pre : List Oper) (acc : List Nat), acc.length = pre.length → (∀ i o, pre[i]? = some o → ∀ x, (acc.getD i 0).testBit x = true → ∃ p ∈ hard o, x = p ∨ (acc.getD p 0).testBit x = true) →
    (∀ i o, (pre ++ ops)[i]? = some o → ∀ p ∈ hard o, p < i) →
    ∀ i o, (pre ++ ops)[i]? = some o → ∀ x, ((masks ops acc).getD i 0).testBit x = true → ∃ p ∈ hard o, x = p ∨ ((masks ops acc).getD p 0).testBit x = true := by
  intro ops
  induction ops with
  | nil => intro pre acc hl hI _ i o ho x hx; simp only [masks, List.append_nil] at *; exact hI i o ho x hx
  | cons o ops ih =>
    intro pre acc hl hI hp
    have hp' : ∀ i o', (pre ++ [o] ++ ops)[i]? = some o' → ∀ p ∈ hard o', p < i := by simpa using hp
    have := ih (pre ++ [o]) (acc ++ [maskOf acc (hard o)]) (by simp [hl]) ?_ hp'
    · simpa [masks] using this
    · intro i o' ho' x hx
      have get : ∀ p, p < pre.length → (acc ++ [maskOf acc (hard o)]).getD p 0 = acc.getD p 0 := by
        intro p hp
        simp only [List.getD_eq_getElem?_getD]
        rw [List.getElem?_append_left (by omega)]
      rcases Nat.lt_trichotomy i pre.length with hi | hi | hi
      · rw [List.getElem?_append_left (by omega)] at ho'
        rw [get i hi] at hx
        obtain ⟨p, h1, h2⟩ := hI i o' ho' x hx
        have hpi := hp i o' (by rw [List.getElem?_append_left (by omega)]; exact ho') p h1
        exact ⟨p, h1, by rw [get p (by omega)]; exact h2⟩
      · subst hi
        have ho'' : o' = o := by simpa using ho'.symm
        subst ho''
        have hx' : (acc ++ [maskOf acc (hard o')]).getD pre.length 0 = maskOf acc (hard o') := by
          rw [← hl]; simp
        rw [hx'] at hx
        obtain ⟨p, h1, h2⟩ := maskOf_bit hx
        have hpi := hp pre.length o' (by simp) p h1
        exact ⟨p, h1, by rw [get p hpi]; exact h2⟩
      · rw [List.getElem?_eq_none (by simp; omega)] at ho'; cases ho'

/-- What is asked of a region whose order is drawn. -/
def pairsOK (ops : List Oper) (tg : List Tg) (ms : List Nat) : Bool :=
  (List.range ops.length).all fun i => (List.range i).all fun x =>
    (ms.getD i 0).testBit x || (match ops[x]?, ops[i]? with
      | some ox, some oi => pairOK ops (tagAt tg x) (tagAt tg i) ox oi
      | _, _ => true)
def drawOK (ops : List Oper) (tg : List Tg) : Bool :=
  ((List.range ops.length).all fun i => match ops[i]? with
    | some o => opOK (tagAt tg i) o && (hard o).all (fun p => decide (p < i))
    | none => true) && pairsOK ops tg (masks ops [])

end Go.T
/- Regions whose order is drawn, third part: the machine's side. -/
namespace Go.T
open Go

section
variable {P : Program} {w0 : World} {B0 : Nat → Prop} {e0 : Env} {h0 : Hp} {n : Nat} {ds : List Deferred}

theorem getD_mem {listed : Array Bool} {j : Nat} (hj : j < listed.size) : listed.getD j true = listed.getD j false := by
  simp [hj]

theorem closed_masks {ops : List Oper} {ρ : List Nat} (hp : ∀ i o, ops[i]? = some o → ∀ p ∈ hard o, p < i) (hc : ∀ j o, ops[j]? = some o → j ∉ ρ → ∀ p ∈ hard o, p ∉ ρ) :
    ∀ i o, ops[i]? = some o → (∀ p ∈ hard o, p ∉ ρ) → ∀ x, ((masks ops []).getD i 0).testBit x = true → x ∉ ρ := by
  intro i
  induction i using Nat.strongRecOn with
  | _ i ih =>
    intro o ho hpre x hx
    obtain ⟨p, h1, h2⟩ := masks_spec ops [] [] rfl (fun i o h => by simp at h) (by simpa using hp) i o (by simpa using ho) x hx
    rcases h2 with rfl | h2
    · exact hpre _ h1
    · have hpi := hp i o ho p h1
      have hlt : p < ops.length := by
        have : i < ops.length := by
          rcases Nat.lt_or_ge i ops.length with h | h
          · exact h
          · rw [List.getElem?_eq_none h] at ho; cases ho
        omega
      exact ih p hpi ops[p] (List.getElem?_eq_getElem hlt) (hc p _ (List.getElem?_eq_getElem hlt) (hpre p h1)) x h2

theorem draw_any {fid : Nat} (ops : Array Oper) (hd : ∀ o ∈ ops.toList, ∀ x, o.dst = some x → x < n) (tgl : List Tg) (hok : drawOK ops.toList tgl = true) (r : Option Nat) (m : Nat) {Q : Ex → St → Prop} :
    ∀ (fuel : Nat) (ρ : List Nat) (listed : Array Bool) (st : St) (a : Act) (w : World) (B : Nat → Prop) (e : Env), listed.size = ops.size → ρ.length = fuel → ρ.Pairwise (· < ·) →
    (∀ j, j ∈ ρ ↔ (j < ops.size ∧ listed.getD j true = false)) → (∀ j o, ops.toList[j]? = some o → j ∉ ρ → ∀ p ∈ hard o, p ∉ ρ) →
    Rel w B e n st a → Ext w0 B0 e0 h0 w B e st.hp → a.defers = ds → runL P fid ops.toList (tagAt tgl) ρ st (Q .normal) →
    wpAnyIn (wr r) m P .any ops (Qm w0 B0 e0 h0 n ds Q) fuel listed a w := by
  unfold drawOK at hok
  rw [Bool.and_eq_true] at hok
  obtain ⟨hok1, hok2⟩ := hok
  have each : ∀ i o, ops.toList[i]? = some o → opOK (tagAt tgl i) o = true ∧ ∀ p ∈ hard o, p < i := by
    intro i o ho
    have hi : i < ops.toList.length := by
      rcases Nat.lt_or_ge i ops.toList.length with h | h
      · exact h
      · rw [List.getElem?_eq_none h] at ho; cases ho
    have := List.all_eq_true.1 hok1 i (List.mem_range.2 hi)
    rw [ho] at this
    simp only [Bool.and_eq_true] at this
    exact ⟨this.1, fun p hp => by have := List.all_eq_true.1 this.2 p hp; simpa using this⟩
  have pair : ∀ i x, i < ops.toList.length → x < i → ((masks ops.toList []).getD i 0).testBit x = false → ∀ ox oi, ops.toList[x]? = some ox → ops.toList[i]? = some oi → pairOK ops.toList (tagAt tgl x) (tagAt tgl i) ox oi = true := by
    intro i x hi hx hb ox oi hox hoi
    unfold pairsOK at hok2
    have h1 := List.all_eq_true.1 hok2 i (List.mem_range.2 hi)
    have h2 := List.all_eq_true.1 h1 x (List.mem_range.2 hx)
    rw [hb, hox, hoi] at h2
    simpa using h2
  intro fuel
  induction fuel with
  | zero =>
    intro ρ listed st a w B e hsz hlen hsort hmem hcl hr hx hds h
    have hnil : ρ = [] := List.length_eq_zero_iff.1 hlen
    subst hnil
    refine ⟨?_, .normal, rfl, st, B, e, h, hr, hx, hds⟩
    rw [List.eq_nil_iff_forall_not_mem]
    intro j hj
    obtain ⟨h1, o, ho, _⟩ := mem_ready.1 hj
    have hjs : j < ops.size := by
      rcases Nat.lt_or_ge j ops.size with h | h
      · exact h
      · rw [Array.getElem?_eq_none h] at ho; cases ho
    have := (hmem j).2 ⟨hjs, h1⟩
    simp at this
  | succ fuel ih =>
    intro ρ listed st a w B e hsz hlen hsort hmem hcl hr hx hds h
    have hmask := closed_masks (ρ := ρ) (fun i o ho => (each i o ho).2) hcl
    refine ⟨fun hnil => ?_, fun i hi => ?_⟩
    · exfalso
      cases hρ : ρ with
      | nil => rw [hρ] at hlen; simp at hlen
      | cons j ρ' =>
        have hj : j ∈ ρ := by rw [hρ]; simp
        obtain ⟨hjs, hjl⟩ := (hmem j).1 hj
        have hready : j ∈ Region.ready .any ops listed := by
          refine mem_ready.2 ⟨hjl, ops[j], Array.getElem?_eq_getElem hjs, fun ed hed hb => ?_⟩
          have hhard : ed.on ∈ hard ops[j] := List.mem_map.2 ⟨ed, List.mem_filter.2 ⟨by simpa using hed, hb⟩, rfl⟩
          have hlt := (each j ops[j] (by simp [hjs])).2 _ hhard
          have hn : ed.on ∉ ρ := by
            intro hin
            rw [hρ] at hin hsort
            rcases List.mem_cons.1 hin with h | h
            · omega
            · have := (List.pairwise_cons.1 hsort).1 _ h
              omega
          have hs : ed.on < ops.size := by omega
          have := mt (hmem ed.on).2 hn
          have hne : listed.getD ed.on true ≠ false := fun he => this ⟨hs, he⟩
          rw [getD_mem (by omega)] at hne
          cases hv : listed.getD ed.on false with
          | true => rfl
          | false => exact absurd hv hne
        rw [hnil] at hready
        simp at hready
    · obtain ⟨hil, o, ho, hpre⟩ := mem_ready.1 hi
      have his : i < ops.size := by
        rcases Nat.lt_or_ge i ops.size with h | h
        · exact h
        · rw [Array.getElem?_eq_none h] at ho; cases ho
      have hio : ops.toList[i]? = some o := by simpa using ho
      have hin : i ∈ ρ := (hmem i).2 ⟨his, hil⟩
      obtain ⟨l1, l2, hsplit⟩ := List.append_of_mem hin
      have hpre' : ∀ p ∈ hard o, p ∉ ρ := by
        intro p hp hpin
        obtain ⟨ed, hed, rfl⟩ := List.mem_map.1 hp
        obtain ⟨h1, h2⟩ := List.mem_filter.1 hed
        have h3 := hpre ed (by simpa using h1) h2
        obtain ⟨h4, h5⟩ := (hmem _).1 hpin
        rw [getD_mem (by omega), h3] at h5
        cases h5
      have hs1 : ∀ x ∈ l1, x < i := by
        rw [hsplit, List.pairwise_append] at hsort
        exact fun x hx => hsort.2.2 x hx i (by simp)
      have hs2 : ∀ x ∈ l2, i < x := by
        rw [hsplit, List.pairwise_append] at hsort
        exact fun x hx => (List.pairwise_cons.1 hsort.2.1).1 x hx
      have hsort' : (l1 ++ l2).Pairwise (· < ·) := by
        rw [hsplit, List.pairwise_append] at hsort
        rw [List.pairwise_append]
        exact ⟨hsort.1, (List.pairwise_cons.1 hsort.2.1).2, fun x hx y hy => hsort.2.2 x hx y (by simp [hy])⟩
      rw [hsplit] at h
      have hb := bubble (fun i o ho => (each i o ho).1) l1 st (fun x hxl st K hk => ?_) h
      · unfold stepAt at hb
        rw [hio] at hb
        unfold wpOpIn
        simp only [ho]
        refine step_wp ops hd r m ho hr hx hds hb ?_
        rintro a' w' ⟨st', B', e', g1, g2, g3, g4⟩
        refine ih (l1 ++ l2) (listed.setIfInBounds i true) st' a' w' B' e' (by simp [hsz]) (by rw [hsplit] at hlen; simp at hlen ⊢; omega) hsort' (fun j => ?_) (fun j oj hoj hj p hp => ?_) g2 g3 g4 g1
        · have e1 : j ∈ l1 ++ l2 ↔ j ∈ ρ ∧ j ≠ i := by
            rw [hsplit]
            simp only [List.mem_append, List.mem_cons]
            constructor
            · rintro (h | h)
              · exact ⟨.inl h, by have := hs1 j h; omega⟩
              · exact ⟨.inr (.inr h), by have := hs2 j h; omega⟩
            · rintro ⟨h | h | h, hne⟩
              · exact .inl h
              · exact absurd h hne
              · exact .inr h
          rw [e1, hmem j]
          by_cases hji : j = i
          · subst hji
            simp [hsz, his]
          · rw [getD_set_ne true (Ne.symm hji)]
            simp [hji]
        · have hpρ : p ∉ ρ := by
            by_cases hji : j = i
            · subst hji
              rw [hio] at hoj
              injection hoj with hoj
              subst hoj
              exact hpre' p hp
            · refine hcl j oj hoj (fun hjρ => hj ?_) p hp
              rw [hsplit] at hjρ
              simp only [List.mem_append, List.mem_cons] at hjρ ⊢
              rcases hjρ with h | h | h
              · exact .inl h
              · exact absurd h hji
              · exact .inr h
          intro hin'
          apply hpρ
          rw [hsplit]
          simp only [List.mem_append, List.mem_cons] at hin' ⊢
          rcases hin' with h | h
          · exact .inl h
          · exact .inr (.inr h)
      · have hxi := hs1 x hxl
        have hxs : x < ops.toList.length := by simp; omega
        have hbit : ((masks ops.toList []).getD i 0).testBit x = false := by
          cases hv : ((masks ops.toList []).getD i 0).testBit x with
          | false => rfl
          | true => exact absurd (by rw [hsplit]; simp [hxl]) (hmask i o hio hpre' x hv)
        have hox : ops.toList[x]? = some ops.toList[x] := List.getElem?_eq_getElem hxs
        have hp := pair i x (by simpa using his) hxi hbit _ _ hox hio
        unfold stepAt at hk ⊢
        rw [hox, hio] at hk
        rw [hio]
        have hk' : stepT P fid ops.toList (tagAt tgl x) ops.toList[x] st (fun s => stepT P fid ops.toList (tagAt tgl i) o s K) := hk
        have := pair_swap hp hk'
        simpa [hox] using this

theorem Rel.draw {w : World} {B : Nat → Prop} {e : Env} {st : St} {a : Act} (hr : Rel w B e n st a) : Rel { w with drawn := w.drawn + 1 } B e n st a := by
  have hm : ∀ {a v}, R w B (e.E st.hp) a v → R { w with drawn := w.drawn + 1 } B (e.E st.hp) a v := fun h => h.mono (fun _ _ => rfl) (fun _ h => h) (fun _ _ h => h)
  refine ⟨⟨fun L hk => ?_, hr.hp.inj, hr.hp.bnd, hr.hp.glb⟩, fun i => hm (hr.slots i), hr.size⟩
  have hc := hr.hp.con L hk
  cases hcon : st.hp.con L with
  | none => trivial
  | blk cs =>
    rw [hcon] at hc
    obtain ⟨h1, h2, vs, T, h3, h4, h5⟩ := hc
    exact ⟨h1, h2, vs, T, h3, h4, fun j hj => hm (h5 j hj)⟩
  | arr sz xs =>
    rw [hcon] at hc
    obtain ⟨a', cap, h1, h2, h3, h4⟩ := hc
    refine ⟨a', cap, h1, h2, h3, ?_⟩
    rcases h4 with h4 | ⟨h5, h6, h7, vs, T, h8, h9, h10⟩
    · exact .inl h4
    · exact .inr ⟨h5, h6, h7, vs, T, h8, h9, fun i j hi hj => ⟨hm (h10 i j hi hj).1, (h10 i j hi hj).2⟩⟩
  | bt T cs =>
    rw [hcon] at hc
    obtain ⟨h1, h2, vs, h3, h4, h5⟩ := hc
    exact ⟨h1, h2, vs, h3, h4, fun j hj => hm (h5 j hj)⟩
  | ba T bs =>
    rw [hcon] at hc
    exact hc
  | gl cs =>
    rw [hcon] at hc
    obtain ⟨h1, h2, vs, T, f, h3, h4, h5⟩ := hc
    exact ⟨h1, h2, vs, T, f, h3, h4, fun j hj => hm (h5 j hj)⟩
  | mp es ck =>
    rw [hcon] at hc
    obtain ⟨h1, ents, h3, h4, h5⟩ := hc
    exact ⟨h1, ents, h3, h4, fun j hj => ⟨hm (h5 j hj).1, hm (h5 j hj).2.1, (h5 j hj).2.2⟩⟩
  | lp sl m ps asg bd s =>
    rw [hcon] at hc
    obtain ⟨h1, r, h3, h4, h5, h6, h7, h8, h9⟩ := hc
    exact ⟨h1, r, h3, h4, h5, h6, h7, fun i => hm (h8 i), h9⟩

theorem Ext.draw {w : World} {B : Nat → Prop} {e : Env} {h : Hp} (x : Ext w0 B0 e0 h0 w B e h) : Ext w0 B0 e0 h0 { w with drawn := w.drawn + 1 } B e h :=
  ⟨x.size, x.os, x.tape, x.output, x.bsub, x.bnew, x.keep, x.onew, x.cnt, x.env, x.live⟩

/-- **A region whose order is drawn.** -/
theorem region_draw {fid : Nat} (hm : P.follows .mixedOrders = true) (id : Nat) (ops : Array Oper) (hd : ∀ o ∈ ops.toList, ∀ x, o.dst = some x → x < n) (tgl : List Tg) (hok : drawOK ops.toList tgl = true) (r : Option Nat) (m : Nat) {Q : Ex → St → Prop}
    {st : St} {a : Act} {w : World} {B : Nat → Prop} {e : Env} (hr : Rel w B e n st a) (hx : Ext w0 B0 e0 h0 w B e st.hp) (hds : a.defers = ds) (h : runL P fid ops.toList (tagAt tgl) (List.range ops.size) st (Q .normal)) :
    (Code.region id ops true).wpIn (wr r) m P (Qm w0 B0 e0 h0 n ds Q) a w := by
  refine wpIn_region_any hm ?_
  refine draw_any ops hd tgl hok r m ops.size (List.range ops.size) _ st a _ B e (by simp) (by simp) List.pairwise_lt_range (fun j => ?_) (fun j o ho hj => ?_) hr.draw hx.draw hds h
  · simp only [List.mem_range]
    constructor
    · intro hj; exact ⟨hj, by simp [hj]⟩
    · exact fun h => h.1
  · exfalso
    apply hj
    rw [List.mem_range]
    rcases Nat.lt_or_ge j ops.size with h | h
    · exact h
    · rw [List.getElem?_eq_none (by simpa using h)] at ho; cases ho

end

end Go.T
/- Soundness: blocks that no label owns; a range's record is let go and taken up again. -/
namespace Go.T
open Go

/-- What a label that holds c owns a block for. -/
def Env.own (e : Env) (L : Lab) : Con → Prop
  | .none => False
  | .gl _ => False
  | .arr _ _ => ∃ a n c, e.η L = .slice a n c ∧ c ≠ 0
  | _ => True
theorem own_has {e : Env} {h : Hp} {L : Lab} (hk : L.k < h.cnt L.f L.s) (ho : e.own L (h.con L)) : e.has h L := by
  refine ⟨hk, ?_⟩
  unfold Env.own at ho
  cases hc : h.con L <;> rw [hc] at ho <;> simp_all

theorem ConRel.move {w w' : World} {B B' : Nat → Prop} {e e' : Env} {h h' : Hp} {L : Lab} {c : Con} (hR : ∀ a v, R w B (e.E h) a v → R w' B' (e'.E h') a v) (hβ : e'.β L = e.β L) (hη : e'.η L = e.η L)
    (hb : e.own L c → w'.heap[(e.β L).block]? = w.heap[(e.β L).block]?) (hB : e.own L c → ¬ B (e.β L).block → ¬ B' (e.β L).block) (hg : ∀ b, B b → w'.heap[b]? = w.heap[b]?) (hgB : ∀ b, B b → B' b) (hc : ConRel w B e h L c) : ConRel w' B' e' h' L c := by
  cases c with
  | none => trivial
  | blk cs =>
    obtain ⟨h1, h2, vs, T, h3, h4, h5⟩ := hc
    exact ⟨by rw [hβ]; exact hB trivial h1, by rw [hβ]; exact h2, vs, T, by rw [hβ, hb trivial]; exact h3, h4, fun j hj => hR _ _ (h5 j hj)⟩
  | bt T cs =>
    obtain ⟨h1, h2, vs, h3, h4, h5⟩ := hc
    exact ⟨by rw [hβ]; exact hB trivial h1, by rw [hβ]; exact h2, vs, by rw [hβ, hb trivial]; exact h3, h4, fun j hj => hR _ _ (h5 j hj)⟩
  | gl cs => exact ConRel.gl_move hR hβ hg hgB hc
  | ba T bs =>
    obtain ⟨h1, cap, cur, h2, h3, h4⟩ := hc
    exact ⟨by rw [hβ]; exact hB trivial h1, cap, cur, by rw [hβ, hb trivial]; exact h2, by rw [hβ, hη]; exact h3, h4⟩
  | arr sz xs =>
    obtain ⟨a, cap, h1, h2, h3, h4⟩ := hc
    refine ⟨a, cap, by rw [hη]; exact h1, h2, h3, ?_⟩
    by_cases h0 : cap = 0
    · exact .inl h0
    have ho : e.own L (.arr sz xs) := ⟨_, _, _, h1, h0⟩
    rcases h4 with h4 | ⟨h5, h6, h7, vs, T, h8, h9, h10⟩
    · exact .inl h4
    · refine .inr ⟨by rw [hβ]; exact h5, by rw [hβ]; exact h6, by rw [hβ]; exact hB ho h7, vs, T, by rw [hβ, hb ho]; exact h8, by rw [hβ]; exact h9, fun i j hi hj => ?_⟩
      rw [hβ]
      exact ⟨hR _ _ (h10 i j hi hj).1, (h10 i j hi hj).2⟩
  | mp es ck =>
    obtain ⟨h1, ents, h3, h4, h5⟩ := hc
    exact ⟨by rw [hβ]; exact hB trivial h1, ents, by rw [hβ, hb trivial]; exact h3, h4, fun j hj => ⟨hR _ _ (h5 j hj).1, hR _ _ (h5 j hj).2.1, (h5 j hj).2.2⟩⟩
  | lp sl n ps asg bd st =>
    obtain ⟨h1, r, h3, h4, h5, h6, h7, h8, h9⟩ := hc
    exact ⟨by rw [hβ]; exact hB trivial h1, r, by rw [hβ, hb trivial]; exact h3, h4, h5, h6, h7, fun i => hR _ _ (h8 i), h9⟩

/-- What no label owns may turn. -/
theorem HRel.free {w w' : World} {B : Nat → Prop} {e : Env} {h : Hp} (hh : HRel w B e h) (hs : w.heap.size ≤ w'.heap.size) (hw : ∀ b, (B b ∨ ∃ L, e.has h L ∧ (e.β L).block = b) → w'.heap[b]? = w.heap[b]?) : HRel w' B e h := by
  refine ⟨fun L hk => ?_, hh.inj, fun b hb => Nat.lt_of_lt_of_le (hh.bnd b hb) hs, hh.glb⟩
  exact ConRel.move (fun a v hR => hR.mono (fun b hb => hw b (.inl hb)) (fun _ h => h) (fun _ _ h => h)) rfl rfl (fun ho => hw _ (.inr ⟨L, own_has hk ho, rfl⟩)) (fun _ h => h) (fun b hb => hw b (.inl hb)) (fun _ h => h) (hh.con L hk)

theorem Ext.push {w : World} {B : Nat → Prop} {e : Env} {h : Hp} (o : Obj) : Ext w B e h (w.alloc o) B e h where
  size := by simp
  os := rfl
  tape := rfl
  output := rfl
  bsub _ h := h
  bnew _ h := .inl h
  keep b hb _ := by
    show (w.heap.push o)[b]? = _
    rw [Array.getElem?_push, if_neg (by omega)]
  onew L hL := .inl ⟨L, hL, rfl⟩
  cnt _ _ := Nat.le_refl _
  env _ _ := ⟨rfl, rfl⟩
  live _ _ h := h
theorem HRel.push {w : World} {B : Nat → Prop} {e : Env} {h : Hp} (hh : HRel w B e h) (o : Obj) : HRel (w.alloc o) B e h := by
  refine hh.free (by simp) (fun b hb => ?_)
  have hlt : b < w.heap.size := by
    rcases hb with hb | ⟨L, hL, rfl⟩
    · exact hh.bnd b hb
    · exact (hh.lt hL).1
  show (w.heap.push o)[b]? = _
  rw [Array.getElem?_push, if_neg (by omega)]

theorem set_none_at {h : Hp} {L : Lab} (M : Lab) : (h.set L .none).con M = if M = L then .none else h.con M := by
  simp only [Hp.set]
  split
  · cases h.con L <;> rfl
  · rfl
theorem dropc {h : Hp} {L : Lab} (M : Lab) : (h.set L .none).con M = .none ∨ (h.set L .none).con M = h.con M := by
  rw [set_none_at]
  by_cases hE : M = L
  · rw [if_pos hE]; exact .inl rfl
  · rw [if_neg hE]; exact .inr rfl
theorem has_drop {e : Env} {h : Hp} {L M : Lab} (hM : e.has (h.set L .none) M) : M ≠ L ∧ e.has h M := by
  obtain ⟨hk, hm⟩ := hM
  have hne : M ≠ L := fun hE => by
    rw [set_none_at, if_pos hE] at hm; exact hm
  refine ⟨hne, hk, ?_⟩
  rw [set_none_at, if_neg hne] at hm
  exact hm

/-- A label is let go, and its block turned. -/
theorem putDrop {w : World} {B : Nat → Prop} {e : Env} {h : Hp} (hh : HRel w B e h) {L : Lab} (hL : e.has h L) (o : Obj) :
    HRel (w.putObj (e.β L).block o) B e (h.set L .none) ∧ Ext w B e h (w.putObj (e.β L).block o) B e (h.set L .none) := by
  have hd := HRel.drop hh (fun M => dropc M) (rfl : (h.set L .none).cnt = h.cnt)
  have hne : ∀ b, (B b ∨ ∃ M, e.has (h.set L .none) M ∧ (e.β M).block = b) → b ≠ (e.β L).block := by
    rintro b (hb | ⟨M, hM, rfl⟩) hE
    · exact (hh.lt hL).2 (hE ▸ hb)
    · obtain ⟨h1, h2⟩ := has_drop hM
      exact h1 (hh.inj M L h2 hL hE)
  refine ⟨hd.free (by simp) (fun b hb => World.putObj_heap_other (hne b hb)), ?_⟩
  exact
    { size := by simp
      os := rfl
      tape := rfl
      output := rfl
      bsub := fun _ h => h
      bnew := fun _ h => .inl h
      keep := fun b _ ho => World.putObj_heap_other (fun hE => ho L hL hE.symm)
      onew := fun M hM => .inl ⟨M, (has_drop hM).2, rfl⟩
      cnt := fun _ _ => Nat.le_refl _
      env := fun _ _ => ⟨rfl, rfl⟩
      live := fun M _ hl => by
        rcases dropc (h := h) (L := L) M with h1 | h1
        · rw [h1] at hl; exact hl.elim
        · rwa [h1] at hl }

/-- A label is taken up again. -/
def Hp.back (h : Hp) (L : Lab) (c : Con) : Hp := if hk : L.k < h.cnt L.f L.s then
    ⟨fun M => if M = L then c else h.con M, h.cnt, fun M hM => by
      by_cases hE : M = L
      · subst hE; omega
      · rw [if_neg hE]; exact h.ok M hM⟩
  else h
theorem back_con {h : Hp} {L : Lab} {c : Con} (hk : L.k < h.cnt L.f L.s) (M : Lab) : (h.back L c).con M = if M = L then c else h.con M := by
  unfold Hp.back; rw [dif_pos hk]
theorem back_cnt {h : Hp} {L : Lab} {c : Con} : (h.back L c).cnt = h.cnt := by
  unfold Hp.back; split <;> rfl

/-- Marks among the deferred calls: each of a block that no label owns, in which nothing lies. -/
def DefOK (N : Nat) (w : World) (B : Nat → Prop) (e : Env) (h : Hp) (ds : List Deferred) : Prop :=
  ∃ Ds : List Nat, ds = Ds.map (fun D => { target := .collected D, args := #[] }) ∧ Ds.Nodup ∧ ∀ D ∈ Ds, N ≤ D ∧ ¬ B D ∧ D < w.heap.size ∧ w.heap[D]? = some (.deferred (some [])) ∧ ∀ L, e.has h L → (e.β L).block ≠ D
theorem DefOK.nil (N : Nat) (w : World) (B : Nat → Prop) (e : Env) (h : Hp) : DefOK N w B e h [] := ⟨[], rfl, List.nodup_nil, fun D hD => by simp at hD⟩
theorem notB_ext {w w' : World} {B B' : Nat → Prop} {e e' : Env} {h h' : Hp} (x : Ext w B e h w' B' e' h') {D : Nat} (g1 : D < w.heap.size) (g3 : ∀ L, e.has h L → (e.β L).block ≠ D) (g2 : ¬ B D) : ¬ B' D := by
  intro hb
  rcases x.bnew D hb with h1 | ⟨L, h1, h2⟩ | h1
  · exact g2 h1
  · exact g3 L h1 h2
  · omega
theorem DefOK.ext {w w' : World} {B B' : Nat → Prop} {e e' : Env} {h h' : Hp} {N : Nat} {ds : List Deferred} (x : Ext w B e h w' B' e' h') (d : DefOK N w B e h ds) : DefOK N w' B' e' h' ds := by
  obtain ⟨Ds, h1, h2, h3⟩ := d
  refine ⟨Ds, h1, h2, fun D hD => ?_⟩
  obtain ⟨g0, gb, g1, g2, g3⟩ := h3 D hD
  refine ⟨g0, notB_ext x g1 g3 gb, Nat.lt_of_lt_of_le g1 x.size, by rw [x.keep D g1 g3]; exact g2, fun L hL hE => ?_⟩
  rcases x.onew L hL with ⟨M, k1, k2⟩ | k1
  · exact g3 M k1 (k2.trans hE)
  · omega
theorem unowned_ext {w w' : World} {B B' : Nat → Prop} {e e' : Env} {h h' : Hp} (x : Ext w B e h w' B' e' h') {D : Nat} (g1 : D < w.heap.size) (g3 : ∀ L, e.has h L → (e.β L).block ≠ D) : D < w'.heap.size ∧ w'.heap[D]? = w.heap[D]? ∧ ∀ L, e'.has h' L → (e'.β L).block ≠ D := by
  refine ⟨Nat.lt_of_lt_of_le g1 x.size, x.keep D g1 g3, fun L hL hE => ?_⟩
  rcases x.onew L hL with ⟨M, k1, k2⟩ | k1
  · exact g3 M k1 (k2.trans hE)
  · omega
end Go.T
