/- Part of a proof: a small logic of programs over plain values, shown sound for the given machine. -/
import Derived.Test.YtmajndgdfmnchaaT1
import Derived.IntWalk
import Derived.OrdersIn
import Derived.RangeFuncNested
import Derived.RangeFuncRecord
/- Soundness, fifteenth part: make; one operation is sound. -/
namespace Go.T
open Go

theorem makeSlice_sound {P : Program} {w : World} {B : Nat → Prop} {e : Env} {h : Hp} (hh : HRel w B e h) {t : TypeId} {n c : AV} {vn vc : Value} (hn : R w B (e.E h) n vn) (hc : R w B (e.E h) c vc) (f s : Nat)
    {K : AV → Hp → Prop} (hK : makeSliceO P (tk P t) h f s n c K) :
    ∃ w' v h' e' av, (Instr.makeSlice t vn vc).run P w = .ok v w' ∧ HRel w' B e' h' ∧ Ext w B e h w' B e' h' ∧ R w' B (e'.E h') av v ∧ K av h' := by
  unfold makeSliceO at hK
  split at hK
  · rename_i el hk
    have hu := tk_slice hk
    obtain ⟨hel, hK⟩ := hK
    obtain ⟨i, d, z, hi, hu', hz, htz, hs, htin, hby, hz1, hz2⟩ := tok_parts hel
    unfold makeSliceK at hK
    split at hK
    · rename_i a b
      obtain ⟨rfl, h0, h1, h2, h3, h4, hK⟩ := hK
      obtain rfl := R_int hn
      obtain rfl := R_int hc
      have hzr := ofVal_cells (w := w) (B := B) (E := e.E h) z
      rw [← htz] at hzr
      obtain ⟨e', p1, p2, p3⟩ := newArr (w := w) hh f s (tsz P el) [] (List.replicate a.toNat (tzero P el)) (fun _ _ => undef) (fun _ j => z.cells.getD j undef) #[] el a.toNat
        (fun i hi => by simp at hi) (fun i hi => by simp [h3]) (fun i j hi => by simp at hi) (fun i j hi => by simp at hi)
        (fun i j hi hj => by simp only [List.getElem_replicate]; exact hzr.2 j (by omega))
        (fun i j hi hj => by
          refine hz1 _ ?_
          have hlt : j < z.cells.toList.length := by rw [Array.length_toList, hz2, ← hs]; exact hj
          have : z.cells.getD j undef = z.cells.toList[j] := by
            have : j < z.cells.size := by simpa using hlt
            simp [this]
          rw [this]
          exact List.getElem_mem hlt) (by simp) (by simp)
      refine ⟨_, .slice (some ⟨w.heap.size, 0, none⟩) a.toNat a.toNat, _, e', .os (h.fresh f s), ?_, p1, p2, .ref _ _ (by simpa using p3), by simpa using hK⟩
      have w1 : IntKind.i64.wrap a = a := IntWalk.i64_in a (by omega)
      have hz0 : 0 < i.size := by omega
      have hb : ¬ (a * (i.bytes : Int) > 2 ^ 48) := by rw [← hby]; omega
      have hrow : ∀ q : Nat, ((Array.range (a.toNat * i.size)).map (z.cells[· % z.cells.size]!)) = (flatRow (tsz P el) a.toNat (fun _ j => z.cells.getD j undef)).toArray := by
        intro _
        apply Array.ext
        · simp [flatRow, hs]
        · intro q h1 h2
          have hq : q % i.size < z.cells.size := by rw [hz2]; exact Nat.mod_lt _ hz0
          simp only [flatRow, hs, List.getElem_toArray, List.getElem_map, List.getElem_range, Array.getElem_map, Array.getElem_range, hz2]
          rw [getElem!_pos z.cells (q % i.size) hq]
          simp [hq]
      have hrow := hrow 0
      simp only [Instr.makeSlice, Sem.run_bind, run_underlying hu, Result.andThen_ok, asInt, asIntOf, Sem.run_pure, typeInfo, run_program, hi, w1]
      have hc1 : (decide (a < 0) || decide ((i.bytes : Int) * a > 2 ^ 48)) = false := by
        rw [Int.mul_comm]
        simp only [Bool.or_eq_false_iff, decide_eq_false_iff_not]
        exact ⟨by omega, hb⟩
      have hc2 : ¬ ((decide (a < 0) || decide ((i.bytes : Int) * a > 2 ^ 48) || decide (a < 0) || decide (a > a)) = true) := by
        rw [hc1]; simp; omega
      rw [if_neg hc2]
      simp only [Sem.run_bind, run_askRoom, Result.andThen_ok, run_sizeOf w htin]
      rw [hs]
      by_cases h0' : a.toNat * i.size = 0
      · have ha0 : a.toNat = 0 := by
          rcases Nat.mul_eq_zero.1 h0' with h | h <;> omega
        rw [if_pos h0']
        have hr0 : ∀ f : Nat → Value, (Array.range 0).map f = #[] := fun f => Array.eq_empty_of_size_eq_zero (by simp)
        simp [newRow, World.pushObj, ha0, flatRow, hr0]
      · rw [if_neg h0']
        simp only [zeroValue, typeInfo, Sem.run_bind, run_program, Result.andThen_ok, hi, hz, Sem.run_pure, hrow]
        simp [newRow, World.pushObj, flatRow, hs]
    · exact hK.elim
  · exact hK.elim

/-- What is left by an operation: an abstract state aas wanted, related. -/
def Nx (w0 : World) (B0 : Nat → Prop) (e0 : Env) (h0 : Hp) (n : Nat) (ds : List Deferred) (K : St → Prop) (a' : Act) (w' : World) : Prop :=
  ∃ st' B' e', K st' ∧ Rel w' B' e' n st' a' ∧ Ext w0 B0 e0 h0 w' B' e' st'.hp ∧ a'.defers = ds

theorem put_defers (a : Act) (d : Option Nat) (v : Value) : (a.put d v).defers = a.defers := by cases d <;> rfl

theorem Rel.step {w w' : World} {B B' : Nat → Prop} {e e' : Env} {n : Nat} {st : St} {a : Act} (hr : Rel w B e n st a) {h' : Hp} (hh : HRel w' B' e' h') (x : Ext w B e st.hp w' B' e' h') : Rel w' B' e' n (st.withHp h') a :=
  ⟨hh, fun i => (hr.slots i).ext hr.hp x, hr.size⟩

section
variable {P : Program} {w0 : World} {B0 : Nat → Prop} {e0 : Env} {h0 : Hp} {n : Nat} {ds : List Deferred} {K : St → Prop} {w : World} {B : Nat → Prop} {e : Env} {st : St} {a : Act}

theorem Nx.value (hr : Rel w B e n st a) (hx : Ext w0 B0 e0 h0 w B e st.hp) (hds : a.defers = ds) {d : Option Nat} (hd : ∀ x, d = some x → x < n) {av : AV} {v : Value} (hv : R w B (e.E st.hp) av v) (hK : K (st.put d av)) :
    Nx w0 B0 e0 h0 n ds K (a.put d v) w :=
  ⟨st.put d av, B, e, hK, hr.put d av v hv hd, by rw [put_hp]; exact hx, by rw [put_defers]; exact hds⟩

theorem Nx.heap (hr : Rel w B e n st a) (hx : Ext w0 B0 e0 h0 w B e st.hp) (hds : a.defers = ds) {d : Option Nat} (hd : ∀ x, d = some x → x < n) {w' : World} {B' : Nat → Prop} {e' : Env} {h' : Hp}
    (hh : HRel w' B' e' h') (x : Ext w B e st.hp w' B' e' h') {av : AV} {v : Value} (hv : R w' B' (e'.E h') av v) (hK : K ((st.withHp h').put d av)) :
    Nx w0 B0 e0 h0 n ds K (a.put d v) w' :=
  Nx.value (st := st.withHp h') (hr.step hh x) (hx.trans x) hds hd hv hK

theorem two_args {args : Array Operand} {st : St} {x y : AV} (h : args.toList.map st.ev = [x, y]) : ∃ a0 a1, args = #[a0, a1] ∧ st.ev a0 = x ∧ st.ev a1 = y := by
  obtain ⟨l⟩ := args
  cases l with
  | nil => simp at h
  | cons a l => cases l with
    | nil => simp at h
    | cons b l => cases l with
      | nil => simp at h; exact ⟨a, b, rfl, h.1, h.2⟩
      | cons c l => simp at h
/-- What the machine does at an operation is aas wanted. -/
def Fin (P : Program) (w0 : World) (B0 : Nat → Prop) (e0 : Env) (h0 : Hp) (n : Nat) (ds : List Deferred) (K : St → Prop) (d : Option Nat) (a : Act) : Result Next → Prop
  | .ok (.value v) w' => Nx w0 B0 e0 h0 n ds K (a.put d v) w'
  | .ok .skip w' => Nx w0 B0 e0 h0 n ds K (a.put d undef) w'
  | .ok (.enter f args) w' => Calls P f args w' fun
      | .returned v, w'' => Nx w0 B0 e0 h0 n ds K (a.put d v) w''
      | _, _ => False
  | .ok (.round l f tmps asg body) w' => ∀ r m, RoundIn (wr r) m P l f tmps asg body w' fun
      | .returned v, w'' => Nx w0 B0 e0 h0 n ds K (a.put d v) w''
      | _, _ => False
  | _ => False

theorem Fin.value (hr : Rel w B e n st a) (hx : Ext w0 B0 e0 h0 w B e st.hp) (hds : a.defers = ds) {d : Option Nat} (hd : ∀ x, d = some x → x < n) {s : Sem Value}
    (h : ∃ x av, s.run P w = .ok x w ∧ R w B (e.E st.hp) av x ∧ K (st.put d av)) : Fin P w0 B0 e0 h0 n ds K d a ((do pure (.value (← s)) : Sem Next).run P w) := by
  obtain ⟨x, av, h1, h2, h3⟩ := h
  rw [Sem.run_bind, h1]
  exact Nx.value hr hx hds hd h2 h3

theorem nilSlice_val {y : Operand} {ρ : Act} (h : nilSlice y = true) : ∃ n c, ρ.eval y = .slice none n c := by
  unfold nilSlice at h
  split at h
  · exact ⟨_, _, rfl⟩
  · cases h

theorem opK_sound (fid : Nat) (o : Oper) (hr : Rel w B e n st a) (hx : Ext w0 B0 e0 h0 w B e st.hp) (hds : a.defers = ds) (hd : ∀ x, o.dst = some x → x < n) (hK : opK P fid o st K) :
    Fin P w0 B0 e0 h0 n ds K o.dst a ((execOp a.eval o).run P w) := by
  unfold opK at hK
  unfold execOp
  generalize o.op = op at hK ⊢
  cases op <;> dsimp only at hK ⊢ <;> try exact hK.elim
  case move x => exact Nx.value hr hx hds hd (ev_R hr x) hK
  case assign x => exact Nx.value hr hx hds hd (ev_R hr x) hK
  case pick c x y =>
    unfold pickK at hK
    split at hK
    · rename_i t hc
      have h1 := ev_R hr c
      rw [hc] at h1
      have h1 := R_bool h1
      simp only [h1, asBool, Sem.run_bind, Sem.run_pure, Result.andThen_ok]
      cases t
      · exact Nx.value hr hx hds hd (ev_R hr y) hK
      · exact Nx.value hr hx hds hd (ev_R hr x) hK
    · exact hK.elim
  case alloc t =>
    obtain ⟨ht, hK⟩ := hK
    obtain ⟨w', e', v, h1, h2, h3, h4⟩ := alloc_sound hr.hp ht fid (o.dst.getD 0)
    rw [Sem.run_bind, h1]
    exact Nx.heap hr hx hds hd h2 h3 (.ref _ _ h4) hK
  case box t x =>
    obtain ⟨hc, hK⟩ := hK
    obtain ⟨w', e', v, h1, h2, h3, h4⟩ := box_sound (P := P) (t := t) hr.hp (ev_R hr x) hc fid (o.dst.getD 0)
    rw [Sem.run_bind, h1]
    exact Nx.heap hr hx hds hd h2 h3 (.ref _ _ h4) hK
  case build t parts => exact Fin.value hr hx hds hd (build_sound hr parts hK)
  case buildSlice t len parts =>
    obtain ⟨w', B', x, av, h1, h2, h3, h4, h5⟩ := buildSlice_sound hr len parts hK
    rw [Sem.run_bind, h1]
    exact Nx.heap (st := st) hr hx hds hd h2 h3 h4 h5
  case load t x =>
    obtain ⟨ht, hK⟩ := hK
    exact Fin.value hr hx hds hd (loadK_sound hr.hp ht (ev_R hr x) hK)
  case store t x y =>
    obtain ⟨ht, hK⟩ := hK
    obtain ⟨w', h', h1, h2, h3, h4⟩ := storeK_sound (P := P) hr.hp ht (ev_R hr x) (ev_R hr y) hK
    rw [Sem.run_bind, h1]
    exact Nx.heap hr hx hds hd h2 h3 .un h4
  case nilCheck x =>
    obtain ⟨⟨p, hp⟩, h2, h3⟩ := nilCheck_sound (ev_R hr x) hK
    have := Nx.value (K := K) hr hx hds hd h2 h3
    rw [hp] at this
    simp only [hp]
    exact this
  case binOp op xt x y yt =>
    exact Fin.value hr hx hds hd (binK_sound (ev_R hr x) (ev_R hr y) x y (fun h => nilSlice_val h) hK)
  case unOp op xt x => exact Fin.value hr hx hds hd (unK_sound (ev_R hr x) hK)
  case convert s t x => exact Fin.value hr hx hds hd (conv_sound (ev_R hr x) hK)
  case makeFunc fn first caps =>
    obtain ⟨h1, hK⟩ := hK
    have hf : first = #[] := by simpa using h1
    subst hf
    refine Fin.value hr hx hds hd ⟨.func fn #[] (caps.map a.eval), _, by simp [Instr.makeFunc], ?_, hK⟩
    refine .fn fn (caps.toList.map st.ev) (caps.map a.eval) (by simp) (fun j hj => ?_)
    have hj' : j < caps.size := by simpa using hj
    have := ev_R hr caps[j]
    simpa [hj'] using this
  case makeSlice t x y =>
    obtain ⟨w', v, h', e', av, h1, h2, h3, h4, h5⟩ := makeSlice_sound hr.hp (ev_R hr x) (ev_R hr y) fid (o.dst.getD 0) hK
    rw [Sem.run_bind, h1]
    exact Nx.heap hr hx hds hd h2 h3 h4 h5
  case slice t x lo hi mx =>
    exact Fin.value hr hx hds hd (sliceO_sound hr (ev_R hr x) hK)
  case fieldAddr s x f =>
    unfold fieldAddrO at hK
    split at hK
    · rename_i off m t hf
      exact Fin.value hr hx hds hd (fieldAddr_sound hf (ev_R hr x) hK)
    · exact hK.elim
  case field s x f =>
    unfold fieldO at hK
    split at hK
    · rename_i off m t cs hf hc
      obtain ⟨ho, hK⟩ := hK
      have h1 := ev_R hr x
      rw [hc] at h1
      obtain ⟨y, h2, h3⟩ := field_sound hf h1 ho
      exact Fin.value hr hx hds hd ⟨y, _, h2, h3, hK⟩
    · exact hK.elim
  case indexAddr t x ix =>
    unfold indexAddrO at hK
    split at hK
    · rename_i m el hk
      obtain ⟨_, h2, _, hK⟩ := hK
      exact Fin.value hr hx hds hd (indexArr_sound hk h2 (ev_R hr x) (ev_R hr ix) hK)
    · rename_i el hk
      obtain ⟨h2, _, hK⟩ := hK
      exact Fin.value hr hx hds hd (indexSlice_sound hr.hp hk h2 (ev_R hr x) (ev_R hr ix) hK)
    · exact hK.elim
  case index t x ix =>
    unfold indexO at hK
    split at hK
    · rename_i m el hk
      obtain ⟨h2, hK⟩ := hK
      exact Fin.value hr hx hds hd (indexAgg_sound hk h2 (ev_R hr x) (ev_R hr ix) hK)
    · rename_i hk
      exact Fin.value hr hx hds hd (indexStr_sound hk (ev_R hr x) (ev_R hr ix) hK)
    · exact hK.elim
  case extract x i => exact Fin.value hr hx hds hd (extract_sound (ev_R hr x) hK)
  case makeMap t r =>
    cases r with
    | some r => exact hK.elim
    | none =>
      obtain ⟨w', e', v, h1, h2, h3, h4⟩ := makeMap_sound (P := P) hr.hp t fid (o.dst.getD 0)
      simp only [Option.map_none]
      rw [Sem.run_bind, h1]
      exact Nx.heap hr hx hds hd h2 h3 (.ref _ _ h4) hK
  case lookup t x ix ok => exact Fin.value hr hx hds hd (lookup_sound hr.hp (ev_R hr x) (ev_R hr ix) hK)
  case mapEntry t x ix =>
    obtain ⟨w', y, h', av, h1, h2, h3, h4, h5⟩ := mapEntry_sound (P := P) hr.hp (ev_R hr x) (ev_R hr ix) hK
    rw [Sem.run_bind, h1]
    exact Nx.heap hr hx hds hd h2 h3 h4 h5
  case entryStore t x s y =>
    obtain ⟨w', h', h1, h2, h3, h4⟩ := entryStore_sound (P := P) (t := t) hr.hp (ev_R hr x) (ev_R hr s) (ev_R hr y) hK
    rw [Sem.run_bind, h1]
    exact Nx.heap hr hx hds hd h2 h3 .un h4
  case call c =>
    obtain ⟨callee, args, ats⟩ := c
    dsimp only at hK
    unfold calleeK at hK
    split at hK
    · rename_i f
      simp only [Callee.ev] at hK
      unfold callV at hK
      split at hK
      · rename_i g caps hf
        obtain ⟨hb, hK⟩ := hK
        have h1 := ev_R hr f
        rw [hf] at h1
        obtain ⟨vs, h2, h3, h4⟩ := R_fn h1
        have hrun : (do let d ← resolve a.eval { callee := .value f, args := args, argTypes := ats } o.type; invoke d.target d.args : Sem Next).run P w = .ok (.enter g (args.map a.eval ++ vs)) w := by
          unfold hasBody at hb
          split at hb
          · rename_i fn hfn
            simp only [Bool.and_eq_true, bne_iff_ne, ne_eq] at hb
            obtain ⟨bd, hbd⟩ := Option.isSome_iff_exists.1 hb.1
            simp [resolve, h2, Deferred.ofValue, invoke, callFunc, hfn, hb.2, hbd]
          · cases hb
        rw [hrun]
        have hl : (args.toList.map st.ev ++ caps).length = args.size + caps.length := by simp
        refine (hK w B e (args.map a.eval ++ vs) hr.hp (by simp [h3]) (fun i hi => ?_)).mono ?_
        · rw [hl] at hi
          by_cases hlt : i < args.size
          · have e1 : (args.toList.map st.ev ++ caps).getD i .un = st.ev args[i] := by
              simp [List.getD_eq_getElem?_getD, List.getElem?_append_left, hlt]
            have e2 : (args.map a.eval ++ vs).getD i undef = a.eval args[i] := by
              simp [Array.getElem?_append_left, hlt]
            rw [e1, e2]; exact ev_R hr _
          · have hj : i - args.size < caps.length := by omega
            have e1 : (args.toList.map st.ev ++ caps).getD i .un = caps.getD (i - args.size) .undef := by
              rw [List.getD_eq_getElem?_getD, List.getElem?_append_right (by simp; omega)]
              simp [hj]
            have e2 : (args.map a.eval ++ vs).getD i undef = vs.getD (i - args.size) undef := by
              have : i - args.size < vs.size := by omega
              simp only [Array.getD_eq_getD_getElem?]
              rw [Array.getElem?_append_right (by simp; omega)]
              simp
            rw [e1, e2]; exact h4 _ hj
        · rintro en w' ⟨v, r, h', B', e', rfl, g1, g2, g3, g4⟩
          exact Nx.heap hr hx hds hd g1 g2 g3 g4
      · rename_i L hf
        have h1 := ev_R hr f
        rw [hf] at h1
        obtain ⟨hk, h2⟩ := R_yl h1
        obtain ⟨f', tmps, asg, body, h3, h4⟩ := hK w B e (args.map a.eval) hr.hp hk (by simp) (fun i hi => by
          have hlt : i < args.size := by simpa using hi
          have e1 : (args.toList.map st.ev).getD i .un = st.ev args[i] := by
            simp [List.getD_eq_getElem?_getD, hlt]
          have e2 : (args.map a.eval).getD i undef = a.eval args[i] := by
            simp [hlt]
          rw [e1, e2]; exact ev_R hr _)
        have hrun : (do let d ← resolve a.eval { callee := .value f, args := args, argTypes := ats } o.type; invoke d.target d.args : Sem Next).run P w = .ok (.round (e.β L).block f' tmps asg body) w := by
          simp [resolve, h2, Deferred.ofValue, invoke, h3]
        rw [hrun]
        intro r m
        refine (h4 r m).mono ?_
        rintro en w' ⟨v, r', h', B', e', rfl, g1, g2, g3, g4⟩
        exact Nx.heap hr hx hds hd g1 g2 g3 g4
      · exact hK.elim
    · split at hK
      · rename_i x t hx' ht
        obtain ⟨a0, rfl⟩ : ∃ y, args = #[y] := by
          obtain ⟨l⟩ := args
          cases l with
          | nil => simp at hx'
          | cons y l => cases l with
            | nil => exact ⟨y, rfl⟩
            | cons z l => simp at hx'
        obtain rfl : ats = #[t] := by rw [← Array.toArray_toList (xs := ats), ht]
        simp only [List.map_cons, List.map_nil, List.cons.injEq, and_true] at hx'
        subst hx'
        obtain ⟨v, av, h1, h2, h3⟩ := lenK_sound (P := P) hr.hp (ev_R hr a0) hK o.type
        have hrun : (do let d ← resolve a.eval { callee := .builtin .len, args := #[a0], argTypes := #[t] } o.type; invoke d.target d.args : Sem Next).run P w = .ok (.value v) w := by
          simp [resolve, invoke, builtin, h1]
        rw [hrun]
        exact Nx.value (st := st.withHp st.hp) hr hx hds hd h2 h3
      · exact hK.elim
    · split at hK
      · rename_i x y t u hx' ht
        obtain rfl : ats = #[t, u] := by rw [← Array.toArray_toList (xs := ats), ht]
        obtain ⟨a0, a1, rfl⟩ : ∃ y z, args = #[y, z] := by
          obtain ⟨l⟩ := args
          cases l with
          | nil => simp at hx'
          | cons y l => cases l with
            | nil => simp at hx'
            | cons z l => cases l with
              | nil => exact ⟨y, z, rfl⟩
              | cons z l => simp at hx'
        simp only [List.map_cons, List.map_nil, List.cons.injEq, and_true] at hx'
        obtain ⟨rfl, rfl⟩ := hx'
        unfold appendO at hK
        split at hK
        · rename_i el el' hk1 hk2
          obtain ⟨hel, hK⟩ := hK
          obtain ⟨w', v, h', e', av, h1, h2, h3, h4, h5⟩ := appendK_sound (ty := o.type) hr.hp hk1 hk2 hel (ev_R hr a0) (ev_R hr a1) fid (o.dst.getD 0) hK
          have hrun : (do let d ← resolve a.eval { callee := .builtin .append, args := #[a0, a1], argTypes := #[t, u] } o.type; invoke d.target d.args : Sem Next).run P w = .ok (.value v) w' := by
            simp [resolve, invoke, builtin, h1]
          rw [hrun]
          exact Nx.heap hr hx hds hd h2 h3 h4 h5
        · exact hK.elim
      · exact hK.elim
    · unfold mmK at hK
      split at hK
      · rename_i k x k' y hargs
        obtain ⟨a0, a1, rfl, hx0, hx1⟩ := two_args hargs
        have g0 := R_int (by rw [← hx0]; exact ev_R hr a0)
        have g1 := R_int (by rw [← hx1]; exact ev_R hr a1)
        have hrun : (do let d ← resolve a.eval { callee := .builtin .min, args := #[a0, a1], argTypes := ats } o.type; invoke d.target d.args : Sem Next).run P w = .ok (.value (.int k (if y < x then y else x))) w := by
          simp [resolve, invoke, builtin, Builtin.min_, Builtin.min2, g0, g1]
        rw [hrun]
        exact Nx.value (st := st.withHp st.hp) hr hx hds hd (.int _ _) hK
      · exact hK.elim
    · unfold mmK at hK
      split at hK
      · rename_i k x k' y hargs
        obtain ⟨a0, a1, rfl, hx0, hx1⟩ := two_args hargs
        have g0 := R_int (by rw [← hx0]; exact ev_R hr a0)
        have g1 := R_int (by rw [← hx1]; exact ev_R hr a1)
        have hrun : (do let d ← resolve a.eval { callee := .builtin .max, args := #[a0, a1], argTypes := ats } o.type; invoke d.target d.args : Sem Next).run P w = .ok (.value (.int k (if y > x then y else x))) w := by
          simp [resolve, invoke, builtin, Builtin.max_, Builtin.max2, g0, g1]
        rw [hrun]
        exact Nx.value (st := st.withHp st.hp) hr hx hds hd (.int _ _) hK
      · exact hK.elim
    · exact hK.elim

end

end Go.T
/- Freezing, and going back to an elder heap: what is carried over. -/
namespace Go.T
open Go
/-- What is related ahead and behind stays so for the labels known ahead. -/
theorem R.restore {w w' : World} {B B' : Nat → Prop} {e e' : Env} {h h' h3 : Hp} (hE : ∀ a v1 v2, e.E h a v1 → e'.E h' a v2 → e'.E h3 a v2) {a : AV} {v : Value} (hR : R w B (e.E h) a v) :
    ∀ v2, R w' B' (e'.E h') a v2 → R w' B' (e'.E h3) a v2 := by
  induction hR with
  | undef v => intro v2 _; exact .undef v2
  | un => intro v2 h2; rw [R_un h2]; exact .un
  | int k n => intro v2 h2; rw [R_int h2]; exact .int k n
  | bool b => intro v2 h2; rw [R_bool h2]; exact .bool b
  | str s => intro v2 h2; rw [R_str h2]; exact .str s
  | nilp => intro v2 h2; rw [R_nilp h2]; exact .nilp
  | nilf => intro v2 h2; rw [R_nilf h2]; exact .nilf
  | nilm =>
    intro v2 h2
    cases h2 with
    | nilm => exact .nilm
    | ref _ _ hr => exact hr.elim
  | l0 ex sz a c hx =>
    intro v2 h2
    cases h2 with
    | l0 _ _ a' c' hx' => exact .l0 ex sz a' c' hx'
    | l _ _ _ b off cap vs h1 => exact absurd rfl h1
    | ref _ _ hr => exact hr.elim
  | l ex sz xs b off cap vs h1 h2 h3 h4 h5 h6 _ h8 ih =>
    intro v2 g
    cases g with
    | l0 _ _ a' c' hx' => exact absurd rfl h1
    | l _ _ _ b' off' cap' vs' g1 g2 g3 g4 g5 g6 g7 g8 => exact .l ex sz xs b' off' cap' vs' g1 g2 g3 g4 g5 g6 (fun i j hi hj => ih i j hi hj _ (g7 i j hi hj)) g8
    | ref _ _ hr => exact hr.elim
  | ip cs b off vs h1 h2 _ ih =>
    intro v2 g
    cases g with
    | ip _ b' off' vs' g1 g2 g3 => exact .ip cs b' off' vs' g1 g2 (fun j hj => ih j hj _ (g3 j hj))
    | ref _ _ hr => exact hr.elim
  | agg cs vs h1 _ ih =>
    intro v2 g
    obtain ⟨vs', rfl, g1, g2⟩ := R_agg g
    exact .agg cs vs' g1 (fun j hj => ih j hj _ (g2 j hj))
  | tup cs vs h1 _ ih =>
    intro v2 g
    obtain ⟨vs', rfl, g1, g2⟩ := R_tup g
    exact .tup cs vs' g1 (fun j hj => ih j hj _ (g2 j hj))
  | fn f cs vs h1 _ ih =>
    intro v2 g
    obtain ⟨vs', rfl, g1, g2⟩ := R_fn g
    exact .fn f cs vs' g1 (fun j hj => ih j hj _ (g2 j hj))
  | ref a v hr =>
    intro v2 g
    cases a <;> first | exact hr.elim | skip
    all_goals
      cases g with
      | ref _ _ g => exact .ref _ _ (hE _ _ _ hr g)

theorem E_back {e e' : Env} {h h' : Hp} (hc : ∀ L, h.con L = .none ∨ h'.con L = h.con L) (a : AV) (v1 v2 : Value) (h1 : e.E h a v1) (h2 : e'.E h' a v2) : e'.E h a v2 := by
  have live : ∀ L, (h.con L).live → (h'.con L).live := fun L hl => by
    rcases hc L with hn | hn
    · rw [hn] at hl; exact hl.elim
    · rw [hn]; exact hl
  cases a with
  | pt L sz i j => exact ⟨h1.1, h2.2.1, fun hl => h2.2.2 (live L hl)⟩
  | os L => exact ⟨h1.1, h2.2.1, fun hl => h2.2.2 (live L hl)⟩
  | sl L sz a n => exact ⟨h1.1, h2.2.1, fun hl => h2.2.2 (live L hl)⟩
  | mr L => exact ⟨h1.1, h2.2.1, fun hl => h2.2.2 (live L hl)⟩
  | yl L => exact ⟨h1.1, h2.2⟩
  | _ => exact h1.elim

theorem has_back {e' : Env} {h h' : Hp} (hc : ∀ L, h.con L = .none ∨ h'.con L = h.con L) (hcnt : ∀ f s, h.cnt f s ≤ h'.cnt f s) {L : Lab} (hL : e'.has h L) : e'.has h' L := by
  obtain ⟨hk, hm⟩ := hL
  refine ⟨Nat.lt_of_lt_of_le hk (hcnt _ _), ?_⟩
  rcases hc L with hn | hn
  · rw [hn] at hm; exact hm.elim
  · rw [hn]; exact hm

theorem HRel.back {w w' : World} {B B' : Nat → Prop} {e e' : Env} {h h' : Hp} (hh : HRel w B e h) (hh' : HRel w' B' e' h') (x : Ext w B e h w' B' e' h') (hc : ∀ L, h.con L = .none ∨ h'.con L = h.con L) : HRel w' B' e' h := by
  have hr : ∀ {a v1 v2}, R w B (e.E h) a v1 → R w' B' (e'.E h') a v2 → R w' B' (e'.E h) a v2 := fun g1 g2 => R.restore (E_back hc) g1 _ g2
  refine ⟨fun L hk => ?_, fun M M' hM hM' hb => hh'.inj _ _ (has_back hc x.cnt hM) (has_back hc x.cnt hM') hb, hh'.bnd⟩
  have hcon := hh.con L hk
  have hcon' := hh'.con L (Nat.lt_of_lt_of_le hk (x.cnt _ _))
  obtain ⟨e1, e2⟩ := x.env L hk
  rcases hc L with hn | hn
  · rw [hn]; trivial
  · rw [hn] at hcon'
    cases hcc : h.con L with
    | none => trivial
    | blk cs =>
      rw [hcc] at hcon hcon'
      obtain ⟨_, _, vs, T, _, _, g1⟩ := hcon
      obtain ⟨p1, p2, vs', T', p3, p4, g2⟩ := hcon'
      exact ⟨p1, p2, vs', T', p3, p4, fun j hj => hr (g1 j hj) (g2 j hj)⟩
    | arr sz xs =>
      rw [hcc] at hcon hcon'
      obtain ⟨a, cap, q1, q2, q3, q4⟩ := hcon
      obtain ⟨a', cap', p1, p2, p3, p4⟩ := hcon'
      refine ⟨a', cap', p1, p2, p3, ?_⟩
      rcases p4 with p4 | ⟨p4, p5, p6, vs', T', p7, p8, p9⟩
      · exact .inl p4
      · rw [e2, q1] at p1
        injection p1 with _ _ hcap
        rcases q4 with q4 | ⟨_, _, _, vs, T, _, _, q9⟩
        · exact .inl (by omega)
        · exact .inr ⟨p4, p5, p6, vs', T', p7, p8, fun i j hi hj => ⟨hr (q9 i j hi hj).1 (p9 i j hi hj).1, (p9 i j hi hj).2⟩⟩
    | lp sl n ps asg bd s =>
      rw [hcc] at hcon hcon'
      obtain ⟨_, r, _, _, _, _, _, g1, _⟩ := hcon
      obtain ⟨p1, r', p2, p3, p4, p5, p6, g2, p7⟩ := hcon'
      exact ⟨p1, r', p2, p3, p4, p5, p6, fun i => hr (g1 i) (g2 i), p7⟩
    | mp es ck =>
      rw [hcc] at hcon hcon'
      obtain ⟨_, ents, _, _, g1⟩ := hcon
      obtain ⟨p1, ents', p2, p3, g2⟩ := hcon'
      exact ⟨p1, ents', p2, p3, fun j hj => ⟨hr (g1 j hj).1 (g2 j hj).1, hr (g1 j hj).2.1 (g2 j hj).2.1, (g2 j hj).2.2⟩⟩

theorem Ext.back {w w' : World} {B B' : Nat → Prop} {e e' : Env} {h h' : Hp} (x : Ext w B e h w' B' e' h') (hc : ∀ L, h.con L = .none ∨ h'.con L = h.con L) : Ext w B e h w' B' e' h where
  size := x.size
  os := x.os
  tape := x.tape
  output := x.output
  bsub := x.bsub
  bnew := x.bnew
  keep := x.keep
  onew L hL := x.onew L (has_back hc x.cnt hL)
  cnt _ _ := Nat.le_refl _
  env := x.env
  live _ _ h := h


mutual
/-- A value in which label L, which holds c, is read aas what c says. -/
def AV.frz (L : Lab) (c : Con) : AV → AV
  | .os M => if M = L then (match c with | .arr sz xs => .l false sz xs | _ => .os M) else .os M
  | .sl M sz a n => if M = L then (match c with | .arr sz' xs => if sz' = sz ∧ a + n ≤ xs.length then .l false sz ((xs.drop a).take n) else .sl M sz a n | _ => .sl M sz a n) else .sl M sz a n
  | .pt M sz i j => if M = L then (match c with | .blk cs => if i = 0 then .ip (cs.drop j) else .pt M sz i j | _ => .pt M sz i j) else .pt M sz i j
  | .l ex sz xs => .l ex sz (AV.frzs L c xs)
  | .ip cs => .ip (AV.frzs L c cs)
  | .agg cs => .agg (AV.frzs L c cs)
  | .tup cs => .tup (AV.frzs L c cs)
  | .fn f cs => .fn f (AV.frzs L c cs)
  | v => v
def AV.frzs (L : Lab) (c : Con) : List AV → List AV
  | [] => []
  | x :: r => AV.frz L c x :: AV.frzs L c r
end
theorem frzs_map (L : Lab) (c : Con) : ∀ xs, AV.frzs L c xs = xs.map (AV.frz L c) := by
  intro xs
  induction xs with
  | nil => rfl
  | cons x r ih => simp [AV.frzs, ih]
theorem frz_cells (L : Lab) (c : Con) (a : AV) : (a.frz L c).cells = a.cells.map (AV.frz L c) := by
  cases a with
  | agg cs => simp [AV.frz, AV.cells, frzs_map]
  | os M =>
    by_cases hM : M = L
    · cases c <;> simp [AV.frz, AV.cells, hM]
    · simp [AV.frz, AV.cells, hM]
  | sl M sz a n =>
    by_cases hM : M = L
    · cases c with
      | arr sz' xs => by_cases hi : sz' = sz ∧ a + n ≤ xs.length <;> simp [AV.frz, AV.cells, hM, hi]
      | _ => simp [AV.frz, AV.cells, hM]
    · simp [AV.frz, AV.cells, hM]
  | pt M sz i j =>
    by_cases hM : M = L
    · cases c with
      | blk cs => by_cases hi : i = 0 <;> simp [AV.frz, AV.cells, hM, hi]
      | _ => simp [AV.frz, AV.cells, hM]
    · simp [AV.frz, AV.cells, hM]
  | _ => simp [AV.frz, AV.cells]
theorem frz_undef (L : Lab) (c : Con) : AV.undef.frz L c = .undef := by simp [AV.frz]
theorem frz_getD (L : Lab) (c : Con) (l : List AV) (j : Nat) : (l.map (AV.frz L c)).getD j .undef = (l.getD j .undef).frz L c := by
  simp only [List.getD_eq_getElem?_getD, List.getElem?_map]
  cases l[j]? <;> simp [frz_undef]

section
variable {w : World} {B : Nat → Prop} {e : Env} {h : Hp} {L : Lab}
/-- The blocks that don't turn any more, L's too. -/
def frzB (B : Nat → Prop) (e : Env) (h : Hp) (L : Lab) (b : Nat) : Prop := B b ∨ (e.has h L ∧ b = (e.β L).block)

theorem set_none_con (M : Lab) : (h.set L .none).con M = if M = L then .none else h.con M := by
  simp only [Hp.set]
  split
  · cases h.con L <;> rfl
  · rfl
theorem drop_none (M : Lab) : (h.set L .none).con M = .none ∨ (h.set L .none).con M = h.con M := by
  rw [set_none_con]
  by_cases hE : M = L
  · rw [if_pos hE]; exact .inl rfl
  · rw [if_neg hE]; exact .inr rfl
theorem E_frz {a : AV} {v : Value} (hE : e.E h a v) : e.E (h.set L .none) a v := by
  have live : ∀ M, ((h.set L .none).con M).live → (h.con M).live := fun M hl => by
    rcases drop_none (h := h) (L := L) M with h1 | h1
    · rw [h1] at hl; exact hl.elim
    · rwa [h1] at hl
  cases a with
  | pt M sz i j => exact ⟨hE.1, hE.2.1, fun hl => hE.2.2 (live M hl)⟩
  | os M => exact ⟨hE.1, hE.2.1, fun hl => hE.2.2 (live M hl)⟩
  | sl M sz a n => exact ⟨hE.1, hE.2.1, fun hl => hE.2.2 (live M hl)⟩
  | mr M => exact ⟨hE.1, hE.2.1, fun hl => hE.2.2 (live M hl)⟩
  | yl M => exact hE
  | _ => exact hE.elim
theorem R_keep {a : AV} {v : Value} (hR : R w B (e.E h) a v) : R w (frzB B e h L) (e.E (h.set L .none)) a v :=
  hR.mono (fun _ _ => rfl) (fun _ hb => .inl hb) (fun _ _ => E_frz)

theorem R_frz (hh : HRel w B e h) {a : AV} {v : Value} (hR : R w B (e.E h) a v) : R w (frzB B e h L) (e.E (h.set L .none)) (a.frz L (h.con L)) v := by
  induction hR with
  | undef v => exact .undef v
  | un => exact .un
  | int k n => exact .int k n
  | bool b => exact .bool b
  | str s => exact .str s
  | nilp => exact .nilp
  | nilf => exact .nilf
  | nilm => exact .nilm
  | l0 ex sz a c hx => exact .l0 ex sz a c hx
  | l ex sz xs b off cap vs h1 h2 h3 h4 h5 h6 h7 h8 ih =>
    simp only [AV.frz, frzs_map]
    have := R.l (E := e.E (h.set L .none)) (w := w) (B := frzB B e h L) ex sz (xs.map (AV.frz L (h.con L))) b off cap vs (by simpa using h1) (by simpa using h2) (by simpa using h3) (.inl h4)
      (fun i hi => by simp only [List.getElem_map, frz_cells, List.length_map]; exact h5 i (by simpa using hi))
      (fun i j hi hj => h6 i j (by simpa using hi) hj)
      (fun i j hi hj => by simp only [List.getElem_map, frz_cells, frz_getD]; exact ih i j (by simpa using hi) hj)
      (fun i j hi hj => h8 i j (by simpa using hi) hj)
    simpa using this
  | ip cs b off vs h1 h2 h3 ih =>
    simp only [AV.frz, frzs_map]
    exact .ip _ b off vs (.inl h1) (fun j hj => h2 j (by simpa using hj)) (fun j hj => by rw [frz_getD]; exact ih j (by simpa using hj))
  | agg cs vs h1 h2 ih =>
    simp only [AV.frz, frzs_map]
    exact .agg _ vs (by simpa using h1) (fun j hj => by rw [frz_getD]; exact ih j (by simpa using hj))
  | tup cs vs h1 h2 ih =>
    simp only [AV.frz, frzs_map]
    exact .tup _ vs (by simpa using h1) (fun j hj => by rw [frz_getD]; exact ih j (by simpa using hj))
  | fn f cs vs h1 h2 ih =>
    simp only [AV.frz, frzs_map]
    exact .fn f _ vs (by simpa using h1) (fun j hj => by rw [frz_getD]; exact ih j (by simpa using hj))
  | ref a v hE =>
    have plain : R w (frzB B e h L) (e.E (h.set L .none)) a v := .ref _ _ (E_frz hE)
    cases a with
    | os M =>
      simp only [AV.frz]
      split
      · rename_i hM; subst hM
        split
        · rename_i sz xs hcon
          have hk := hE.1
          have hc := hh.con _ hk
          rw [hcon] at hc
          obtain ⟨a', cap, g1, g2, g3, g4⟩ := hc
          have hv := hE.2.2 (by rw [hcon]; trivial)
          rw [hv, g1]
          by_cases hx : xs = []
          · subst hx; exact .l0 _ _ _ _ (fun hf => by simp at hf)
          have hlen : 0 < xs.length := List.length_pos_iff.2 hx
          rcases g4 with g4 | ⟨ga, gs, gB, vs, T, gb, gsz, gr⟩
          · omega
          have hβ : e.β M = ⟨(e.β M).block, (e.β M).off, .none⟩ := by rw [← gs]
          rw [ga, hβ]
          refine .l false sz xs _ _ cap (fun i j => vs.getD ((e.β M).off + (i * sz + j)) undef) hx (fun hf => by simp at hf) g2 (.inr ⟨⟨hk, ?_⟩, rfl⟩) g3 (fun i j hi hj => ?_) (fun i j hi hj => R_keep (gr i j hi hj).1) (fun i j hi hj => (gr i j hi hj).2)
          · rw [hcon]; exact ⟨a', xs.length, cap, g1, by omega⟩
          · refine getD_row gb ?_
            have : (i + 1) * sz ≤ cap * sz := Nat.mul_le_mul_right _ (by omega)
            rw [Nat.add_mul] at this
            omega
        · exact plain
      · exact plain
    | pt M sz i j =>
      simp only [AV.frz]
      split
      · rename_i hM; subst hM
        split
        · rename_i cs hcon
          split
          · rename_i hi; subst hi
            have hk := hE.1
            have hc := hh.con _ hk
            rw [hcon] at hc
            obtain ⟨gB, goff, vs, T, gb, gsz, gr⟩ := hc
            have hv := hE.2.2 (by rw [hcon]; trivial)
            rw [hv]
            refine .ip _ _ _ (fun x => vs.getD (j + x) undef) (.inr ⟨⟨hk, by rw [hcon]; trivial⟩, rfl⟩) (fun x hx => ?_) (fun x hx => ?_)
            · simp only [List.length_drop] at hx
              rw [goff, Nat.zero_add, Nat.zero_mul, Nat.zero_add]
              exact getD_row gb (by omega)
            · simp only [List.length_drop] at hx
              have e1 : (cs.drop j).getD x .undef = cs.getD (j + x) .undef := by simp
              rw [e1]
              exact R_keep (gr (j + x) (by omega))
          · exact plain
        · exact plain
      · exact plain
    | sl M sz a0 n0 =>
      simp only [AV.frz]
      split
      · rename_i hM; subst hM
        split
        · rename_i sz' xs hcon
          split
          · rename_i hcnd
            obtain ⟨rfl, hle⟩ := hcnd
            have hk := hE.1
            have hc := hh.con _ hk
            rw [hcon] at hc
            obtain ⟨a', cap, g1, g2, g3, g4⟩ := hc
            obtain ⟨p, m, c, q, q1, q2, q3, q4⟩ := hE.2.2 (by rw [hcon]; trivial)
            rw [g1] at q1
            injection q1 with e1 e2 e3
            subst e1; subst e2; subst e3
            have hl : ((xs.drop a0).take n0).length = n0 := by simp; omega
            by_cases hn0 : n0 = 0
            · subst hn0
              rw [q3, List.take_zero]; exact .l0 _ _ _ _ (fun hf => by simp at hf)
            rcases g4 with g4 | ⟨ga, gs, gB, vs, T, gb, gsz, gr⟩
            · omega
            have hβ : e.β M = ⟨(e.β M).block, (e.β M).off, .none⟩ := by rw [← gs]
            have q4 := q4 (by omega)
            rw [ga, hβ] at q4
            simp only [Option.map_some, addr_add] at q4
            rw [q3, q4]
            have hg : ∀ i (hi : i < ((xs.drop a0).take n0).length), ((xs.drop a0).take n0)[i] = xs[a0 + i]'(by omega) := by
              intro i hi; simp
            have off : ∀ i j, (e.β M).off + a0 * sz' + (i * sz' + j) = (e.β M).off + ((a0 + i) * sz' + j) := fun i j => by rw [Nat.add_mul]; omega
            have := R.l (w := w) (B := frzB B e h M) (E := e.E (h.set M .none)) false sz' ((xs.drop a0).take n0) (e.β M).block ((e.β M).off + a0 * sz') (cap - a0) (fun i j => vs.getD ((e.β M).off + ((a0 + i) * sz' + j)) undef)
              (by intro h0; rw [h0] at hl; simp at hl; omega) (fun hf => by simp at hf) (by omega) (.inr ⟨⟨hk, by rw [hcon]; exact ⟨a', xs.length, cap, g1, by omega⟩⟩, rfl⟩)
              (fun i hi => by rw [hg i hi]; exact g3 _ _) (fun i j hi hj => by
                rw [off]
                refine getD_row gb ?_
                have : (a0 + i + 1) * sz' ≤ cap * sz' := Nat.mul_le_mul_right _ (by omega)
                rw [Nat.add_mul] at this
                omega) (fun i j hi hj => by rw [hg i hi]; exact R_keep (gr (a0 + i) j (by omega) hj).1) (fun i j hi hj => (gr (a0 + i) j (by omega) hj).2)
            rw [hl] at this
            exact this
          · exact plain
        · exact plain
      · exact plain
    | mr M => exact plain
    | yl M => exact plain
    | _ => exact hE.elim

theorem has_frz {M : Lab} (hM : e.has (h.set L .none) M) : M ≠ L ∧ e.has h M := by
  obtain ⟨hk, hm⟩ := hM
  have hne : M ≠ L := fun hE => by
    rw [set_none_con, if_pos hE] at hm; exact hm
  refine ⟨hne, hk, ?_⟩
  rw [set_none_con, if_neg hne] at hm
  exact hm
theorem HRel_frz (hh : HRel w B e h) : HRel w (frzB B e h L) e (h.set L .none) := by
  refine ⟨fun M hk => ?_, fun M M' hM hM' hb => hh.inj _ _ (has_frz hM).2 (has_frz hM').2 hb, fun b hb => ?_⟩
  · have hcon := hh.con M hk
    rw [set_none_con]
    by_cases hE : M = L
    · rw [if_pos hE]; trivial
    rw [if_neg hE]
    have nb : e.has h M → ¬ B (e.β M).block → ¬ frzB B e h L (e.β M).block := fun hM hB hb => by
      rcases hb with hb | ⟨hL, hb⟩
      · exact hB hb
      · exact hE (hh.inj _ _ hM hL hb)
    cases hc : h.con M with
    | none => trivial
    | blk cs =>
      rw [hc] at hcon
      obtain ⟨p1, p2, vs, T, p3, p4, p5⟩ := hcon
      exact ⟨nb ⟨hk, by rw [hc]; trivial⟩ p1, p2, vs, T, p3, p4, fun j hj => R_keep (p5 j hj)⟩
    | arr sz xs =>
      rw [hc] at hcon
      obtain ⟨a, cap, p1, p2, p3, p4⟩ := hcon
      refine ⟨a, cap, p1, p2, p3, ?_⟩
      by_cases h0 : cap = 0
      · exact .inl h0
      rcases p4 with p4 | ⟨p4, p5, p6, vs, T, p7, p8, p9⟩
      · exact .inl p4
      · exact .inr ⟨p4, p5, nb ⟨hk, by rw [hc]; exact ⟨_, _, _, p1, h0⟩⟩ p6, vs, T, p7, p8, fun i j hi hj => ⟨R_keep (p9 i j hi hj).1, (p9 i j hi hj).2⟩⟩
    | lp sl n ps asg bd s =>
      rw [hc] at hcon
      obtain ⟨p1, r, p2, p3, p4, p5, p6, p7, p8⟩ := hcon
      exact ⟨nb ⟨hk, by rw [hc]; trivial⟩ p1, r, p2, p3, p4, p5, p6, fun i => R_keep (p7 i), p8⟩
    | mp es ck =>
      rw [hc] at hcon
      obtain ⟨p1, ents, p2, p3, p4⟩ := hcon
      exact ⟨nb ⟨hk, by rw [hc]; trivial⟩ p1, ents, p2, p3, fun j hj => ⟨R_keep (p4 j hj).1, R_keep (p4 j hj).2.1, (p4 j hj).2.2⟩⟩
  · rcases hb with hb | ⟨hL, hb⟩
    · exact hh.bnd b hb
    · subst hb
      have hcon := hh.con L hL.1
      have hm := hL.2
      have lt : ∀ {o : Obj}, w.heap[(e.β L).block]? = some o → (e.β L).block < w.heap.size := fun ho => (Array.getElem?_eq_some_iff.1 ho).1
      cases hc : h.con L with
      | none => rw [hc] at hm; exact hm.elim
      | blk cs =>
        rw [hc] at hcon
        obtain ⟨_, _, vs, T, p3, _⟩ := hcon
        exact lt p3
      | arr sz xs =>
        rw [hc] at hcon hm
        obtain ⟨a, cap, p1, p2, p3, p4⟩ := hcon
        obtain ⟨a', n', c', q1, q2⟩ := hm
        rcases p4 with p4 | ⟨_, _, _, vs, T, p7, _⟩
        · rw [p1] at q1; injection q1 with _ _ q3; omega
        · exact lt p7
      | lp sl n ps asg bd s =>
        rw [hc] at hcon
        obtain ⟨_, r, p2, _⟩ := hcon
        exact lt p2
      | mp es ck =>
        rw [hc] at hcon
        obtain ⟨_, ents, p2, _⟩ := hcon
        exact lt p2
theorem Ext_frz : Ext w B e h w (frzB B e h L) e (h.set L .none) where
  size := Nat.le_refl _
  os := rfl
  tape := rfl
  output := rfl
  bsub _ hb := .inl hb
  bnew b hb := by
    rcases hb with hb | ⟨hL, hb⟩
    · exact .inl hb
    · exact .inr (.inl ⟨L, hL, hb.symm⟩)
  keep _ _ _ := rfl
  onew M hM := .inl ⟨M, (has_frz hM).2, rfl⟩
  cnt _ _ := Nat.le_refl _
  env _ _ := ⟨rfl, rfl⟩
  live M _ hl := by
    rcases drop_none (h := h) (L := L) M with h1 | h1
    · rw [h1] at hl; exact hl.elim
    · rwa [h1] at hl
end


/-- What was made for an append to an empty literal is taken for a value at once. -/
theorem frzA_sound {P : Program} {w : World} {B : Nat → Prop} {e : Env} {h : Hp} (hh : HRel w B e h) {t u ty : TypeId} {x y : AV} {vx vy : Value} (hx : R w B (e.E h) x vx) (hy : R w B (e.E h) y vy) {K : AV → Prop}
    (hK : frzA P (tk P t) (tk P u) h x y K) :
    ∃ w' v B' e' av, (Builtin.append_ #[t, u] ty #[vx, vy]).run P w = .ok v w' ∧ HRel w' B' e' h ∧ Ext w B e h w' B' e' h ∧ R w' B' (e'.E h) av v ∧ K av := by
  unfold frzA at hK
  split at hK
  · rename_i el el' ht hu
    obtain ⟨hel, hK⟩ := hK
    unfold appendY at hK
    split at hK
    · rename_i sz' ys hey
      obtain ⟨hszy, hK⟩ := hK
      unfold frzX at hK
      split at hK
      · rename_i sz0
        obtain ⟨hb, hn, hpos, hK⟩ := hK
        obtain ⟨py, cy, rfl, _, hrowy⟩ := elems_sound hh hy hey
        have hap : appendK h 0 0 (tsz P el) (tbytes P el) (.l true sz0 []) y (fun av h' => av = .os (h.fresh 0 0) ∧ h' = h.alloc 0 0 (.arr (tsz P el) ys)) := by
          unfold appendK appendY; rw [hey]; exact ⟨hszy, hb, hn, hpos, rfl, rfl⟩
        obtain ⟨w', v, h', e', av, q1, q2, q3, q4, rfl, rfl⟩ := appendK_sound (ty := ty) hh ht hu hel hx hy 0 0 hap
        have f1 := HRel_frz (L := h.fresh 0 0) q2
        have f2 := R_frz (L := h.fresh 0 0) q2 q4
        have f3 : Ext w' B e' (h.alloc 0 0 (.arr (tsz P el) ys)) w' (frzB B e' (h.alloc 0 0 (.arr (tsz P el) ys)) (h.fresh 0 0)) e' ((h.alloc 0 0 (.arr (tsz P el) ys)).set (h.fresh 0 0) .none) := Ext_frz
        have x3 := q3.trans f3
        have hnone : h.con (h.fresh 0 0) = .none := h.ok _ (by simp [Hp.fresh])
        have hc : ∀ L, h.con L = .none ∨ ((h.alloc 0 0 (.arr (tsz P el) ys)).set (h.fresh 0 0) .none).con L = h.con L := fun L => by
          by_cases hL : L = h.fresh 0 0
          · left; rw [hL, hnone]
          · right
            rw [set_none_con, if_neg hL]
            exact alloc_con_ne hL
        rw [alloc_con_eq] at f2
        simp only [AV.frz, if_true] at f2
        refine ⟨w', v, _, e', .l false (tsz P el) ys, q1, hh.back f1 x3 hc, x3.back hc, ?_, hK⟩
        obtain ⟨a, cap, rfl, _, hle, hr⟩ := R_l f2
        by_cases hys : ys = []
        · subst hys; exact .l0 _ _ _ _ (fun hf => by simp at hf)
        · obtain ⟨b, off, vs, rfl, hB, r1, r2, r3, r4⟩ := hr hys
          obtain ⟨_, _, us, _, _, _, u3, _⟩ := hrowy hys
          refine .l false _ ys b off cap vs hys (fun hf => by simp at hf) hle hB r1 r2 (fun i j hi hj => ?_) r4
          exact R.restore (E_back hc) (u3 i j hi (by rw [hszy hys]; exact hj)) _ (r3 i j hi hj)
      · exact hK.elim
    · exact hK.elim
  · exact hK.elim
theorem Nx.pure' {P : Program} {w0 : World} {B0 : Nat → Prop} {e0 : Env} {h0 : Hp} {n : Nat} {ds : List Deferred} {K : St → Prop} {o : Oper} {st : St} {a : Act} {w : World} {B : Nat → Prop} {e : Env}
    (hr : Rel w B e n st a) (hx : Ext w0 B0 e0 h0 w B e st.hp) (hds : a.defers = ds) (hd : ∀ x, o.dst = some x → x < n) (hK : frzO P o.op st (fun v => K (st.put o.dst v))) :
    Fin P w0 B0 e0 h0 n ds K o.dst a ((execOp a.eval o).run P w) := by
  obtain ⟨d, op, ty, ps, af, g⟩ := o
  simp only at hK hd ⊢
  unfold frzO at hK
  split at hK
  · rename_i args ats
    unfold frzL at hK
    split at hK
    · rename_i x y t u hx' ht
      obtain rfl : ats = #[t, u] := by rw [← Array.toArray_toList (xs := ats), ht]
      obtain ⟨a0, a1, rfl, rfl, rfl⟩ := two_args hx'
      obtain ⟨w', v, B', e', av, h1, h2, h3, h4, h5⟩ := frzA_sound (ty := ty) hr.hp (ev_R hr a0) (ev_R hr a1) hK
      unfold execOp
      have hrun : (do let d ← resolve a.eval { callee := .builtin .append, args := #[a0, a1], argTypes := #[t, u] } ty; invoke d.target d.args : Sem Next).run P w = .ok (.value v) w' := by
        simp [resolve, invoke, builtin, h1]
      rw [hrun]
      exact Nx.heap (h' := st.hp) hr hx hds hd h2 h3 h4 h5
    · exact hK.elim
  · exact hK.elim
end Go.T
/- Soundness, sixteenth part: regions in any order of their operations; code; functions. -/
namespace Go.T
open Go


theorem calls_in {P : Program} {f : FuncId} {args : Array Value} {w : World} {R : Ending → World → Prop} (r : Option Nat) (m : Nat) (h : Calls P f args w R) : CallsIn (wr r) m P f args w R :=
  (callsIn_wide (n := m)).2 h

/-- One operation, its guard asked. -/
def stepT (P : Program) (fid : Nat) (ops : List Oper) (tg : Tg) (o : Oper) (st : St) (K : St → Prop) : Prop :=
  guardG o.guard (opT P fid tg o st K)
    (fun j want => guardO ((ops[j]?).bind (·.dst)) fun d => guardK (st.slots d) want
      (opT P fid tg o (st.put (some d) (.bool want)) K)
      (K ((st.put (some d) (.bool (!want))).put o.dst .un))
      (K (st.put o.dst .un)))

/-- The operations in an order of their numbers. -/
def runL (P : Program) (fid : Nat) (ops : List Oper) (tg : Nat → Tg) : List Nat → St → (St → Prop) → Prop
  | [], st, K => K st
  | i :: r, st, K =>
    match ops[i]? with
    | none => runL P fid ops tg r st K
    | some o => stepT P fid ops (tg i) o st (fun st' => runL P fid ops tg r st' K)

/-- What is shown beside an operation comes to the operation. -/
theorem opT_opK {P : Program} {fid : Nat} {tg : Tg} {o : Oper} {st : St} {K : St → Prop} (hz : tg ≠ .frz) (h : opT P fid tg o st K) : opK P fid o st K := by
  cases tg with
  | frz => exact absurd rfl hz
  | plain => exact h
  | blk => exact h.2
  | avoid ss => exact h.2
  | mine => exact h.2
  | pure =>
    obtain ⟨d, op, ty, ps, af, g⟩ := o
    simp only [opT] at h
    unfold pureO at h
    split at h
    · rename_i f args ats
      unfold pureK at h
      split at h
      · rename_i g caps hf
        obtain ⟨h1, v, h2, h3⟩ := h
        unfold opK calleeK callV
        simp only [Callee.ev, hf]
        refine ⟨h1, fun w B e vs q1 q2 q3 => (h2 st.hp w B e vs q1 q2 q3).mono ?_⟩
        rintro en w' ⟨v', r, h', B', e', g1, g2, g3, g4, rfl, rfl⟩
        exact ⟨v', r, st.hp, B', e', g1, g2, g3, g4, h3⟩
      · exact h.elim
    · exact h.elim

def toEx : Exit → Option Ex
  | .normal => some .normal
  | .exit id => some (.exit id)
  | .ret => some .ret
  | _ => none

/-- The machine's side of an abstract postcondition. -/
def Qm (w0 : World) (B0 : Nat → Prop) (e0 : Env) (h0 : Hp) (n : Nat) (ds : List Deferred) (Q : Ex → St → Prop) (e : Exit) (a : Act) (w : World) : Prop :=
  ∃ x, toEx e = some x ∧ Nx w0 B0 e0 h0 n ds (Q x) a w

section
variable {P : Program} {w0 : World} {B0 : Nat → Prop} {e0 : Env} {h0 : Hp} {n : Nat} {ds : List Deferred}

theorem opK_noDefer {fid : Nat} {o : Oper} {st : St} {K : St → Prop} (h : opK P fid o st K) : ∀ c, o.op ≠ .defer c := by
  intro c hc
  unfold opK at h
  rw [hc] at h
  exact h

theorem op_wpF {o : Oper} {a : Act} {w : World} (r : Option Nat) (m : Nat) {K : St → Prop} {next : Act → World → Prop} {Q : Exit → Act → World → Prop}
    (hnd : ∀ c, o.op ≠ .defer c) (hf : Fin P w0 B0 e0 h0 n ds K o.dst a ((execOp a.eval o).run P w))
    (hn : ∀ a' w', Nx w0 B0 e0 h0 n ds K a' w' → next a' w') : o.wpIn (wr r) m P a w next Q := by
  refine ⟨fun _ _ => trivial, ?_⟩
  rw [Oper.semAt_eq _ _ _ hnd]
  revert hf
  generalize (execOp a.eval o).run P w = res
  intro hf
  cases res with
  | halt h w' => exact hf.elim
  | ok nx w' =>
    cases nx <;> try exact hf.elim
    · exact hn _ _ hf
    · exact hn _ _ hf
    · rename_i f args
      refine ⟨fun hh => by simp [wr, Fence.wide] at hh, calls_in r _ (Calls.mono hf fun en w'' hR => ?_)⟩
      cases en with
      | returned v => exact hn _ _ hR
      | panicked c => exact hR.elim
      | outgrown => exact hR.elim
    · rename_i l f tmps asg body
      refine ⟨fun hh => by simp [wr, Fence.wide] at hh, (hf r (m - 1)).mono fun en w'' hR => ?_⟩
      cases en with
      | returned v => exact hn _ _ hR
      | panicked c => exact hR.elim
      | outgrown => exact hR.elim

theorem op_wp {fid : Nat} {o : Oper} {st : St} {a : Act} {w : World} {B : Nat → Prop} {e : Env} (r : Option Nat) (m : Nat) {K : St → Prop} {next : Act → World → Prop} {Q : Exit → Act → World → Prop} {tg : Tg}
    (hr : Rel w B e n st a) (hx : Ext w0 B0 e0 h0 w B e st.hp) (hds : a.defers = ds) (hd : ∀ x, o.dst = some x → x < n) (hK : opT P fid tg o st K)
    (hn : ∀ a' w', Nx w0 B0 e0 h0 n ds K a' w' → next a' w') : o.wpIn (wr r) m P a w next Q := by
  by_cases hz : tg = .frz
  · subst hz
    refine op_wpF r m (K := K) ?_ (Nx.pure' hr hx hds hd hK) hn
    intro c hc
    simp only [opT] at hK
    unfold frzO at hK
    rw [hc] at hK
    exact hK
  · have hk := opT_opK hz hK
    exact op_wpF r m (opK_noDefer hk) (opK_sound fid o hr hx hds hd hk) hn

theorem Rel.putSame {w : World} {B : Nat → Prop} {e : Env} {st : St} {a : Act} (hr : Rel w B e n st a) (d : Nat) (av : AV) (hv : R w B (e.E st.hp) av (a.tmps.getD d undef)) : Rel w B e n (st.put (some d) av) a := by
  refine ⟨by rw [put_hp]; exact hr.hp, fun i => ?_, hr.size⟩
  rw [put_slots, put_hp]
  by_cases hi : i = d
  · subst hi; rw [if_pos rfl]; exact hv
  · rw [if_neg hi]; exact hr.slots i

theorem yielded_bool {ops : Array Oper} {tmps : Array Value} {j d : Nat} {b : Bool} (hj : (ops[j]?).bind (·.dst) = some d) (ht : tmps.getD d undef = .bool b) : yielded ops tmps j = some b := by
  unfold yielded
  rw [hj]
  have : tmps[d]? = some (.bool b) := by
    rcases Nat.lt_or_ge d tmps.size with h | h
    · simp [h] at ht ⊢; exact ht
    · simp [Array.getElem?_eq_none h] at ht
      cases ht
  simp [this]

theorem yielded_un {ops : Array Oper} {tmps : Array Value} {j d : Nat} (hj : (ops[j]?).bind (·.dst) = some d) (ht : tmps.getD d undef = undef) : yielded ops tmps j = none := by
  unfold yielded
  rw [hj]
  simp only [Option.bind_some]
  cases h : tmps[d]? with
  | none => rfl
  | some v =>
    have : v = undef := by simpa [h] using ht
    subst this
    rfl

theorem step_wp {fid : Nat} (ops : Array Oper) (hd : ∀ o ∈ ops.toList, ∀ x, o.dst = some x → x < n) (r : Option Nat) (m : Nat) {Q : Exit → Act → World → Prop} {tg : Tg} {i : Nat} {o : Oper} (ho : ops[i]? = some o) {st : St} {a : Act} {w : World} {B : Nat → Prop} {e : Env} {K : St → Prop} {next : Act → World → Prop}
    (hr : Rel w B e n st a) (hx : Ext w0 B0 e0 h0 w B e st.hp) (hds : a.defers = ds) (h : stepT P fid ops.toList tg o st K) (again : ∀ a' w', Nx w0 B0 e0 h0 n ds K a' w' → next a' w') :
    if Region.wanted o (yielded ops a.tmps) then o.wpIn (wr r) m P a w next Q else (∀ f, o.about P w a.eval = some f → (wr r).fn f) ∧ next (a.put o.dst undef) w := by
  have hmem : o ∈ ops.toList := by
    have : ops.toList[i]? = some o := by simpa using ho
    exact List.mem_of_getElem? this
  have hdo := hd o hmem
  unfold stepT guardG at h
  split at h
  · rename_i hg
    have hw : Region.wanted o (yielded ops a.tmps) = true := by simp [Region.wanted, hg]
    rw [if_pos hw]
    exact op_wp r m hr hx hds hdo h again
  · rename_i j want hg
    unfold guardO at h
    split at h
    · rename_i d hj
      have hj' : (ops[j]?).bind (·.dst) = some d := by simpa using hj
      unfold guardK at h
      split at h
      · rename_i b hb
        have hv := hr.slots d
        rw [hb] at hv
        have hv' := R_bool hv
        have hy := yielded_bool hj' hv'
        by_cases hbw : b = want
        · have hw : Region.wanted o (yielded ops a.tmps) = true := by simp [Region.wanted, hg, hy, hbw]
          rw [if_pos hw]
          exact op_wp r m (hr.putSame d (.bool want) (by rw [← hbw]; exact hv)) (by rw [put_hp]; exact hx) hds hdo (h.1 hbw) again
        · have hw : ¬ Region.wanted o (yielded ops a.tmps) = true := by simp [Region.wanted, hg, hy, hbw]
          rw [if_neg hw]
          have hbn : b = !want := by cases b <;> cases want <;> simp_all
          have hr2 := hr.putSame d (.bool (!want)) (by rw [← hbn]; exact hv)
          refine ⟨fun _ _ => trivial, again _ _ ?_⟩
          exact Nx.value hr2 (by rw [put_hp]; exact hx) hds hdo .un (h.2 hbn)
      · rename_i hb
        have hv := hr.slots d
        rw [hb] at hv
        have hy := yielded_un hj' (R_un hv)
        have hw : ¬ Region.wanted o (yielded ops a.tmps) = true := by simp [Region.wanted, hg, hy]
        rw [if_neg hw]
        exact ⟨fun _ _ => trivial, again _ _ (Nx.value hr hx hds hdo .un h)⟩
      · exact h.elim
    · exact h.elim

theorem runL_sound {fid : Nat} (ops : Array Oper) (hd : ∀ o ∈ ops.toList, ∀ x, o.dst = some x → x < n) (r : Option Nat) (m : Nat) {Q : Ex → St → Prop} {tg : Nat → Tg} : ∀ (σ : List Nat) (st : St) (a : Act) (w : World) (B : Nat → Prop) (e : Env),
    Rel w B e n st a → Ext w0 B0 e0 h0 w B e st.hp → a.defers = ds → runL P fid ops.toList tg σ st (Q .normal) → wpOpsIn (wr r) m P ops (Qm w0 B0 e0 h0 n ds Q) σ a w := by
  intro σ
  induction σ with
  | nil => intro st a w B e hr hx hds h; exact ⟨.normal, rfl, st, B, e, h, hr, hx, hds⟩
  | cons i σ ih =>
    intro st a w B e hr hx hds h
    have again : ∀ a' w', Nx w0 B0 e0 h0 n ds (fun st' => runL P fid ops.toList tg σ st' (Q .normal)) a' w' → wpOpsIn (wr r) m P ops (Qm w0 B0 e0 h0 n ds Q) σ a' w' := by
      rintro a' w' ⟨st', B', e', h1, h2, h3, h4⟩
      exact ih st' a' w' B' e' h2 h3 h4 h1
    simp only [runL] at h
    simp only [wpOpsIn]
    have hoe : ops.toList[i]? = ops[i]? := by simp
    rw [hoe] at h
    cases ho : ops[i]? with
    | none => rw [ho] at h; exact ih st a w B e hr hx hds h
    | some o =>
      rw [ho] at h
      exact step_wp ops hd r m ho hr hx hds h again

/-- The tag of the i-th operation. -/
def tagAt (tg : List Tg) (i : Nat) : Tg := match tg[i]? with
  | some t => t
  | none => .plain
theorem tagAt_zero (tg : List Tg) : headT tg = tagAt tg 0 := by cases tg <;> rfl
theorem tagAt_succ (tg : List Tg) (i : Nat) : tagAt (tailT tg) i = tagAt tg (i + 1) := by cases tg <;> simp [tailT, tagAt]

theorem opsK_eq {fid : Nat} {K : St → Prop} (tg : Nat → Tg) : ∀ (rest pre : List Oper) (tl : List Tg) (st : St), (∀ i, tagAt tl i = tg (pre.length + i)) → (∀ i o j b, (rest[i]? = some o) → o.guard = some (j, b) → j < pre.length + i) →
    opsK P fid tl (pre.map (·.dst)) rest st K = runL P fid (pre ++ rest) tg (List.range' pre.length rest.length) st K := by
  intro rest
  induction rest with
  | nil => intro pre tl st _ _; simp [opsK, runL]
  | cons o rest ih =>
    intro pre tl st ht hg
    have hnext : ∀ st', opsK P fid (tailT tl) (pre.map (·.dst) ++ [o.dst]) rest st' K = runL P fid (pre ++ o :: rest) tg (List.range' (pre.length + 1) rest.length) st' K := by
      intro st'
      have := ih (pre ++ [o]) (tailT tl) st' (fun i => by rw [tagAt_succ, ht]; congr 1; simp; omega) (fun i o' j b h1 h2 => by have := hg (i + 1) o' j b (by simpa using h1) h2; simp; omega)
      simpa using this
    have hget : (pre ++ o :: rest)[pre.length]? = some o := by simp
    have htag : headT tl = tg pre.length := by rw [tagAt_zero, ht]; rfl
    simp only [opsK, List.length_cons, List.range'_succ, runL, hget, stepT]
    simp only [hnext, htag]
    cases hgu : o.guard with
    | none => rfl
    | some p =>
      obtain ⟨j, want⟩ := p
      have hj := hg 0 o j want (by simp) hgu
      have : (pre.map (·.dst)).getD j none = ((pre ++ o :: rest)[j]?).bind (·.dst) := by
        have hjl : j < pre.length := by omega
        simp [List.getElem?_append_left, hjl]
      simp only [guardG, this]

end

theorem YieldK.mono {P : Program} {L : Lab} {args : List AV} {h : Hp} {K K' : AV → Hp → Prop} (hc : YieldK P L args h K) (hk : ∀ r h', K r h' → K' r h') : YieldK P L args h K' := by
  intro w B e vs h1 h2 h3 h4
  obtain ⟨f, tmps, asg, body, g1, g2⟩ := hc w B e vs h1 h2 h3 h4
  refine ⟨f, tmps, asg, body, g1, fun r m => (g2 r m).mono ?_⟩
  rintro en w' ⟨v, r', h', B', e', q1, q2, q3, q4, q5⟩
  exact ⟨v, r', h', B', e', q1, q2, q3, q4, hk _ _ q5⟩
theorem CallK.mono {P : Program} {f : Nat} {args : List AV} {h : Hp} {K K' : AV → Hp → Prop} (hc : CallK P f args h K) (hk : ∀ r h', K r h' → K' r h') : CallK P f args h K' :=
  fun w B e vs h1 h2 h3 => (hc w B e vs h1 h2 h3).mono fun _ _ ⟨v, r, h', B', e', g1, g2, g3, g4, g5⟩ => ⟨v, r, h', B', e', g1, g2, g3, g4, hk _ _ g5⟩

end Go.T
/- What an operation hangs on: its operands, and of the heap what it reads; operations apart may change places. -/
namespace Go.T
open Go

/-- An answer that is one, and hangs on nothing else. -/
def Fn {α : Type} (F : (α → Prop) → Prop) : Prop := ∀ K : α → Prop, F K → ∃ v, K v ∧ ∀ K' : α → Prop, K' v → F K'

theorem fn_loadC {c : Con} {g : Bool} {n sz i j : Nat} : Fn (fun K => loadC c g n sz i j K) := by
  intro K h
  unfold loadC at h
  cases c with
  | blk cs => exact ⟨_, h.2.2.2, fun K' h' => by unfold loadC; exact ⟨h.1, h.2.1, h.2.2.1, h'⟩⟩
  | arr sz' xs => obtain ⟨h1, hi, h2, h3, h4⟩ := h; exact ⟨_, h4, fun K' h' => by unfold loadC; exact ⟨h1, hi, h2, h3, h'⟩⟩
  | none => exact h.elim
  | mp _ _ => exact h.elim
  | lp _ _ _ _ _ _ => exact h.elim
theorem fn_loadK {h : Hp} {g : Bool} {n : Nat} {a : AV} : Fn (fun K => loadK h g n a K) := by
  intro K hk
  unfold loadK at hk
  split at hk
  · exact ⟨_, hk.2.2, fun K' h' => by unfold loadK; exact ⟨hk.1, hk.2.1, h'⟩⟩
  · obtain ⟨v, h1, h2⟩ := fn_loadC K hk
    exact ⟨v, h1, fun K' h' => by unfold loadK; exact h2 K' h'⟩
  · exact hk.elim
theorem fn_pickK {c a b : AV} : Fn (fun K => pickK c a b K) := by
  intro K hk
  unfold pickK at hk
  split at hk
  · exact ⟨_, hk, fun K' h' => by unfold pickK; exact h'⟩
  · exact hk.elim
theorem fn_nilCheckK {x : AV} : Fn (fun K => nilCheckK x K) := by
  intro K hk
  unfold nilCheckK at hk
  split at hk
  · exact ⟨_, hk, fun K' h' => by unfold nilCheckK; exact h'⟩
  · exact ⟨_, hk, fun K' h' => by unfold nilCheckK; exact h'⟩
  · exact hk.elim
theorem fn_extractK {x : AV} {i : Nat} : Fn (fun K => extractK x i K) := by
  intro K hk
  unfold extractK at hk
  split at hk
  · obtain ⟨hi, hk⟩ := hk; exact ⟨_, hk, fun K' h' => by unfold extractK; exact ⟨hi, h'⟩⟩
  · exact hk.elim
theorem fn_convK {s d : TK} {x : AV} : Fn (fun K => convK s d x K) := by
  intro K hk
  unfold convK at hk
  split at hk
  · exact ⟨_, hk, fun K' h' => by unfold convK; exact h'⟩
  · exact hk.elim
theorem fn_unK {op : UnOp} {x : AV} : Fn (fun K => unK op x K) := by
  intro K hk
  unfold unK at hk
  split at hk
  · exact ⟨_, hk, fun K' h' => by unfold unK; exact h'⟩
  · exact ⟨_, hk, fun K' h' => by unfold unK; exact h'⟩
  · exact ⟨_, hk, fun K' h' => by unfold unK; exact h'⟩
  · exact hk.elim
theorem fn_fieldAddrK {off : Nat} {a : AV} : Fn (fun K => fieldAddrK off a K) := by
  intro K hk
  unfold fieldAddrK at hk
  split at hk
  · exact ⟨_, hk, fun K' h' => by unfold fieldAddrK; exact h'⟩
  · exact ⟨_, hk, fun K' h' => by unfold fieldAddrK; exact h'⟩
  · exact hk.elim
theorem fn_fieldAddrO {o : Option (Nat × Nat × TypeId)} {a : AV} : Fn (fun K => fieldAddrO o a K) := by
  intro K hk
  unfold fieldAddrO at hk
  split at hk
  · obtain ⟨v, h1, h2⟩ := fn_fieldAddrK K hk; exact ⟨v, h1, fun K' h' => by unfold fieldAddrO; exact h2 K' h'⟩
  · exact hk.elim
theorem fn_fieldO {P : Program} {o : Option (Nat × Nat × TypeId)} {a : AV} : Fn (fun K => fieldO P o a K) := by
  intro K hk
  unfold fieldO at hk
  split at hk
  · exact ⟨_, hk.2, fun K' h' => by unfold fieldO; exact ⟨hk.1, h'⟩⟩
  · exact hk.elim
theorem fn_indexK {o : Option (Nat × Bool)} {m : Nat} {x ix : AV} : Fn (fun K => indexK o m x ix K) := by
  intro K hk
  unfold indexK at hk
  split at hk
  · split at hk
    · exact ⟨_, hk.2.2.2.2, fun K' h' => by unfold indexK; exact ⟨hk.1, hk.2.1, hk.2.2.1, hk.2.2.2.1, h'⟩⟩
    · obtain ⟨h1, hi, hk⟩ := hk; exact ⟨_, hk, fun K' h' => by unfold indexK; exact ⟨h1, hi, h'⟩⟩
    · exact hk.elim
  · exact hk.elim
theorem fn_indexO {P : Program} {k : TK} {x ix : AV} : Fn (fun K => indexO P k x ix K) := by
  intro K hk
  unfold indexO at hk
  split at hk
  · obtain ⟨v, h1, h2⟩ := fn_indexK K hk.2; exact ⟨v, h1, fun K' h' => by unfold indexO; exact ⟨hk.1, h2 K' h'⟩⟩
  · obtain ⟨v, h1, h2⟩ := fn_indexK K hk; exact ⟨v, h1, fun K' h' => by unfold indexO; exact h2 K' h'⟩
  · exact hk.elim
theorem fn_indexC {c : Con} {L : Lab} {m : Nat} {i : Int} : Fn (fun K => indexC c L m i K) := by
  intro K hk
  unfold indexC at hk
  split at hk
  · exact ⟨_, hk.2.2.2, fun K' h' => by unfold indexC; exact ⟨hk.1, hk.2.1, hk.2.2.1, h'⟩⟩
  · exact hk.elim
theorem viewC_get {c : Con} {sz a n : Nat} {F : List AV → Prop} (h : viewC c sz a n F) : ∃ xs, F xs ∧ ∀ G : List AV → Prop, G xs → viewC c sz a n G := by
  unfold viewC at h
  split at h
  · exact ⟨_, h.2.2, fun G hg => by unfold viewC; exact ⟨h.1, h.2.1, hg⟩⟩
  · exact h.elim
theorem viewC_live {c : Con} {sz a n : Nat} {F : List AV → Prop} (h : viewC c sz a n F) : c.live := by
  cases c <;> simp only [viewC] at h <;> trivial
theorem fn_viewK {L : Lab} {sz a n : Nat} {lo hi mx : Option AV} : Fn (fun K => viewK L sz a n lo hi mx K) := by
  intro K hk
  unfold viewK at hk
  split at hk
  · exact ⟨_, hk.2.2, fun K' h' => by unfold viewK; exact ⟨hk.1, hk.2.1, h'⟩⟩
  · exact ⟨_, hk.2.2, fun K' h' => by unfold viewK; exact ⟨hk.1, hk.2.1, h'⟩⟩
  · exact ⟨_, hk.2.2.2, fun K' h' => by unfold viewK; exact ⟨hk.1, hk.2.1, hk.2.2.1, h'⟩⟩
  · exact hk.elim
theorem fn_indexAddrK {h : Hp} {o : Option Nat} {m : Nat} {x ix : AV} : Fn (fun K => indexAddrK h o m x ix K) := by
  intro K hk
  unfold indexAddrK at hk
  split at hk
  · split at hk
    · exact ⟨_, hk.2.2, fun K' h' => by unfold indexAddrK; exact ⟨hk.1, hk.2.1, h'⟩⟩
    · exact ⟨_, hk.2.2, fun K' h' => by unfold indexAddrK; exact ⟨hk.1, hk.2.1, h'⟩⟩
    · obtain ⟨h1, h2, hi, hk⟩ := hk; exact ⟨_, hk, fun K' h' => by unfold indexAddrK; exact ⟨h1, h2, hi, h'⟩⟩
    · obtain ⟨v, h1, h2⟩ := fn_indexC K hk; exact ⟨v, h1, fun K' h' => by unfold indexAddrK; exact h2 K' h'⟩
    · obtain ⟨xs, ⟨q1, q2, q3, hk⟩, hv⟩ := viewC_get hk; exact ⟨_, hk, fun K' h' => by unfold indexAddrK; exact hv _ ⟨q1, q2, q3, h'⟩⟩
    · exact hk.elim
  · exact hk.elim
theorem fn_indexAddrO {P : Program} {k : TK} {h : Hp} {x ix : AV} : Fn (fun K => indexAddrO P k h x ix K) := by
  intro K hk
  unfold indexAddrO at hk
  split at hk
  · obtain ⟨v, h1, h2⟩ := fn_indexAddrK K hk.2.2.2; exact ⟨v, h1, fun K' h' => by unfold indexAddrO; exact ⟨hk.1, hk.2.1, hk.2.2.1, h2 K' h'⟩⟩
  · obtain ⟨v, h1, h2⟩ := fn_indexAddrK K hk.2.2; exact ⟨v, h1, fun K' h' => by unfold indexAddrO; exact ⟨hk.1, hk.2.1, h2 K' h'⟩⟩
  · exact hk.elim
theorem fn_lenK {h : Hp} {x : AV} : Fn (fun K => lenK h x K) := by
  intro K hk
  unfold lenK at hk
  split at hk
  · exact ⟨_, hk, fun K' h' => by unfold lenK; exact h'⟩
  · unfold lenC at hk
    split at hk
    · rename_i hc; exact ⟨_, hk, fun K' h' => by unfold lenK lenC; simp only [hc]; exact h'⟩
    · exact hk.elim
  · obtain ⟨xs, hk, hv⟩ := viewC_get hk; exact ⟨_, hk, fun K' h' => by unfold lenK; exact hv _ h'⟩
  · exact hk.elim
theorem fn_lenO {k : TK} {h : Hp} {x : AV} : Fn (fun K => lenO k h x K) := by
  intro K hk
  unfold lenO at hk
  split at hk
  · unfold lenSK at hk
    split at hk
    · exact ⟨_, hk, fun K' h' => by unfold lenO lenSK; exact h'⟩
    · exact hk.elim
  · obtain ⟨v, h1, h2⟩ := fn_lenK K hk; exact ⟨v, h1, fun K' h' => by unfold lenO; exact h2 K' h'⟩
  · exact ⟨_, hk, fun K' h' => by unfold lenO; exact h'⟩
  · exact hk.elim
theorem eqK_agg {q : EqI} {cs ds : List AV} {K : Bool → Prop} : eqK q (.agg cs) (.agg ds) K = (q.eok = true ∧ 0 < q.n ∧ cs.length = q.n ∧ ∃ b, cellsEq cs ds = some b ∧ K b) := by
  unfold eqK
  cases q.k <;> rfl
theorem fn_eqK {q : EqI} (hn : q.yn = false) {x y : AV} : Fn (fun K => eqK q x y K) := by
  intro K hk
  unfold eqK at hk
  split at hk
  all_goals first
    | exact hk.elim
    | (rename_i hq; exact ⟨_, hk, fun K' h' => by unfold eqK; simp only [hq]; exact h'⟩)
    | skip
  · rw [hn] at hk; exact absurd hk.1 (by simp)
  · obtain ⟨h1, h2, h3, b, h4, h5⟩ := hk
    exact ⟨b, h5, fun K' h' => by dsimp only; rw [eqK_agg]; exact ⟨h1, h2, h3, b, h4, h'⟩⟩
theorem fn_binK {q : EqI} (hn : q.yn = false) {op : BinOp} {x y : AV} : Fn (fun K => binK q op x y K) := by
  intro K hk
  unfold binK at hk
  split at hk
  · split at hk
    · exact ⟨_, hk.2, fun K' h' => by unfold binK; exact ⟨hk.1, h'⟩⟩
    · exact ⟨_, hk.2, fun K' h' => by unfold binK; exact ⟨hk.1, h'⟩⟩
    · exact ⟨_, hk.2.2, fun K' h' => by unfold binK; exact ⟨hk.1, hk.2.1, h'⟩⟩
    · exact ⟨_, hk.2.2, fun K' h' => by unfold binK; exact ⟨hk.1, hk.2.1, h'⟩⟩
    · rename_i h1 h2 h3 h4
      obtain ⟨g1, v, g2, g3⟩ := hk
      refine ⟨v, g3, fun K' h' => ?_⟩
      unfold binK
      cases op <;> first | exact absurd rfl ‹_› | exact ⟨g1, v, g2, h'⟩ | (simp at h1) | (simp at h2) | (simp at h3) | (simp at h4)
  · split at hk
    · exact ⟨_, hk.2, fun K' h' => by unfold binK; exact ⟨hk.1, h'⟩⟩
    · exact ⟨_, hk, fun K' h' => by unfold binK; exact h'⟩
    · exact ⟨_, hk, fun K' h' => by unfold binK; exact h'⟩
    · exact hk.elim
  · rename_i h1 h2
    split at hk
    · obtain ⟨b, g1, g2⟩ := fn_eqK hn _ hk
      refine ⟨_, g1, fun K' h' => ?_⟩
      unfold binK
      split
      · exact absurd rfl (h1 _ _ _ _ rfl)
      · exact absurd rfl (h2 _ _ rfl)
      · exact g2 (fun b => K' (.bool b)) h'
    · obtain ⟨b, g1, g2⟩ := fn_eqK hn _ hk
      refine ⟨_, g1, fun K' h' => ?_⟩
      unfold binK
      split
      · exact absurd rfl (h1 _ _ _ _ rfl)
      · exact absurd rfl (h2 _ _ rfl)
      · exact g2 (fun b => K' (.bool (!b))) h'
    · exact hk.elim
theorem fn_sliceK {x : AV} {lo hi mx : Option AV} : Fn (fun K => sliceK x lo hi mx K) := by
  intro K hk
  unfold sliceK at hk
  split at hk
  · split at hk
    · exact ⟨_, hk.2.2, fun K' h' => by unfold sliceK; exact ⟨hk.1, hk.2.1, h'⟩⟩
    · exact ⟨_, hk.2.2, fun K' h' => by unfold sliceK; exact ⟨hk.1, hk.2.1, h'⟩⟩
    · exact ⟨_, hk.2.2.2, fun K' h' => by unfold sliceK; exact ⟨hk.1, hk.2.1, hk.2.2.1, h'⟩⟩
    · exact hk.elim
  · split at hk
    · exact ⟨_, hk.2.2, fun K' h' => by unfold sliceK; exact ⟨hk.1, hk.2.1, h'⟩⟩
    · exact ⟨_, hk.2.2, fun K' h' => by unfold sliceK; exact ⟨hk.1, hk.2.1, h'⟩⟩
    · exact ⟨_, hk.2.2.2, fun K' h' => by unfold sliceK; exact ⟨hk.1, hk.2.1, hk.2.2.1, h'⟩⟩
    · exact ⟨_, hk.2.2.2, fun K' h' => by unfold sliceK; exact ⟨hk.1, hk.2.1, hk.2.2.1, h'⟩⟩
    · exact hk.elim
  · exact hk.elim

theorem fn_sliceO {P : Program} {k : TK} {h : Hp} {x : AV} {lo hi mx : Option AV} : Fn (fun K => sliceO P k h x lo hi mx K) := by
  intro K hk
  unfold sliceO at hk
  split at hk
  · unfold viewP at hk
    split at hk
    · obtain ⟨h1, hk⟩ := hk
      unfold viewO at hk
      split at hk
      · rename_i hc
        obtain ⟨h2, hk⟩ := hk
        obtain ⟨v, g1, g2⟩ := fn_viewK K hk
        exact ⟨v, g1, fun K' h' => by unfold sliceO viewP viewO; simp only [hc]; exact ⟨h1, h2, g2 K' h'⟩⟩
      · exact hk.elim
    · exact hk.elim
  · unfold viewP at hk
    split at hk
    · obtain ⟨h1, h2, hk⟩ := hk
      obtain ⟨xs, hk, hv⟩ := viewC_get hk
      obtain ⟨v, g1, g2⟩ := fn_viewK K hk
      exact ⟨v, g1, fun K' h' => by unfold sliceO viewP; exact ⟨h1, h2, hv _ (g2 K' h')⟩⟩
    · exact hk.elim
  · rename_i hx1 hx2
    obtain ⟨v, h1, h2⟩ := fn_sliceK K hk.2
    refine ⟨v, h1, fun K' h' => ?_⟩
    unfold sliceO
    split
    · exact absurd rfl (hx1 _)
    · exact absurd rfl (hx2 _ _ _ _)
    · exact ⟨hk.1, h2 K' h'⟩
theorem fn_fillK {place : Nat → Option (Nat × Nat)} {ev : Operand → AV} : ∀ (parts : List (Nat × Operand)) (cs : List AV), Fn (fun K => fillK place cs ev parts K) := by
  intro parts
  induction parts with
  | nil => intro cs K hk; exact ⟨cs, hk, fun K' h' => h'⟩
  | cons p r ih =>
    obtain ⟨i, x⟩ := p
    intro cs K hk
    simp only [fillK] at hk
    cases hp : place i with
    | none => rw [hp] at hk; exact hk.elim
    | some on =>
      obtain ⟨off, n⟩ := on
      rw [hp] at hk
      obtain ⟨v, g1, g2⟩ := ih _ K hk.2.2.2
      exact ⟨v, g1, fun K' h' => by simp only [fillK, hp]; exact ⟨hk.1, hk.2.1, hk.2.2.1, g2 K' h'⟩⟩
theorem fn_buildK {P : Program} {k : TK} {t : TypeId} {ev : Operand → AV} {parts : List (Nat × Operand)} : Fn (fun K => buildK P k t ev parts K) := by
  intro K hk
  unfold buildK at hk
  split at hk
  · obtain ⟨v, g1, g2⟩ := fn_fillK _ _ _ hk.2.2; exact ⟨_, g1, fun K' h' => by unfold buildK; exact ⟨hk.1, hk.2.1, g2 (fun cs => K' (.agg cs)) h'⟩⟩
  · obtain ⟨v, g1, g2⟩ := fn_fillK _ _ _ hk.2.2; exact ⟨_, g1, fun K' h' => by unfold buildK; exact ⟨hk.1, hk.2.1, g2 (fun cs => K' (.agg cs)) h'⟩⟩
  · exact hk.elim
theorem fn_buildSliceK {P : Program} {k : TK} {n : Nat} {ev : Operand → AV} {parts : List (Nat × Operand)} : Fn (fun K => buildSliceK P k n ev parts K) := by
  intro K hk
  unfold buildSliceK at hk
  split at hk
  · obtain ⟨h1, h2, h3, h4, h5, h6, hk⟩ := hk
    exact ⟨_, hk, fun K' h' => by unfold buildSliceK; exact ⟨h1, h2, h3, h4, h5, h6, h'⟩⟩
  · exact hk.elim

/-- The tmps an operation reads. -/
def tmpsOf (xs : List Operand) : List Nat := xs.filterMap (fun | .tmp t => some t | _ => none)
def rd (o : Oper) : List Nat := tmpsOf o.op.operands.toList

theorem ev_same {st st' : St} {xs : List Operand} (h : ∀ t ∈ tmpsOf xs, st'.slots t = st.slots t) {x : Operand} (hx : x ∈ xs) : st'.ev x = st.ev x := by
  cases x with
  | tmp t => exact h t (List.mem_filterMap.2 ⟨_, hx, rfl⟩)
  | _ => rfl

/-- Operations that hang on their operands alone and turn nothing. -/
def isS : Op → Bool
  | .move _ => true
  | .assign _ => true
  | .pick _ _ _ => true
  | .build _ _ => true
  | .buildSlice _ _ _ => true
  | .nilCheck _ => true
  | .binOp _ _ _ y _ => !nilSlice y
  | .unOp _ _ _ => true
  | .convert _ _ _ => true
  | .makeFunc _ _ _ => true
  | .fieldAddr _ _ _ => true
  | .field _ _ _ => true
  | .index _ _ _ => true
  | .extract _ _ => true
  | _ => false
/-- .. that read the heap too. -/
def isL : Op → Bool
  | .load _ _ => true
  | .indexAddr _ _ _ => true
  | .lookup _ _ _ _ => true
  | .slice _ _ _ _ _ => true
  | .call ⟨.builtin .len, _, _⟩ => true
  | _ => false

/-- An operation that turns no heap: one value; and the same wherever operands and (by σ) heaps are alike. -/
def Quiet (F : St → (St → Prop) → Prop) (dst : Option Nat) (rds : List Nat) (σ : Hp → Hp → Prop) : Prop :=
  ∀ st K, F st K → ∃ v, K (st.put dst v) ∧ ∀ (st' : St) (K' : St → Prop), (∀ t ∈ rds, st'.slots t = st.slots t) → σ st.hp st'.hp → K' (st'.put dst v) → F st' K'

theorem fillK_ev {place : Nat → Option (Nat × Nat)} {ev ev' : Operand → AV} {K : List AV → Prop} : ∀ (parts : List (Nat × Operand)) (cs : List AV), (∀ p ∈ parts, ev' p.2 = ev p.2) → fillK place cs ev parts K → fillK place cs ev' parts K := by
  intro parts
  induction parts with
  | nil => intro cs _ h; exact h
  | cons p r ih =>
    obtain ⟨i, x⟩ := p
    intro cs he h
    simp only [fillK] at h ⊢
    have hx := he (i, x) (by simp)
    simp only at hx
    rw [hx]
    cases hp : place i with
    | none => rw [hp] at h; exact h.elim
    | some on =>
      rw [hp] at h
      exact ⟨h.1, h.2.1, h.2.2.1, ih _ (fun p hp => he p (by simp [hp])) h.2.2.2⟩
theorem buildK_ev {P : Program} {k : TK} {t : TypeId} {ev ev' : Operand → AV} {parts : List (Nat × Operand)} {K : AV → Prop} (he : ∀ p ∈ parts, ev' p.2 = ev p.2) (h : buildK P k t ev parts K) : buildK P k t ev' parts K := by
  unfold buildK at h ⊢
  split at h
  · exact ⟨h.1, h.2.1, fillK_ev _ _ he h.2.2⟩
  · exact ⟨h.1, h.2.1, fillK_ev _ _ he h.2.2⟩
  · exact h.elim
theorem buildSliceK_ev {P : Program} {k : TK} {n : Nat} {ev ev' : Operand → AV} {parts : List (Nat × Operand)} {K : AV → Prop} (he : ∀ p ∈ parts, ev' p.2 = ev p.2) (h : buildSliceK P k n ev parts K) : buildSliceK P k n ev' parts K := by
  have e : parts.map (fun p => ev' p.2) = parts.map (fun p => ev p.2) := List.map_congr_left he
  unfold buildSliceK at h ⊢
  rw [e]
  exact h

theorem quiet_S {P : Program} {fid : Nat} {o : Oper} (ho : isS o.op = true) : Quiet (opK P fid o) o.dst (rd o) (fun _ _ => True) := by
  intro st K hk
  unfold opK at hk
  unfold rd
  have key : ∀ {F : (AV → Prop) → Prop}, Fn F → F (fun v => K (st.put o.dst v)) → ∃ v, K (st.put o.dst v) ∧ ∀ (st' : St) (K' : St → Prop), K' (st'.put o.dst v) → F (fun v => K' (st'.put o.dst v)) := by
    intro F hF h
    obtain ⟨v, h1, h2⟩ := hF _ h
    exact ⟨v, h1, fun st' K' h' => h2 _ h'⟩
  cases hop : o.op <;> rw [hop] at ho hk <;> (try dsimp only at hk) <;> first | (simp [isS] at ho; done) | skip
  case move x => exact ⟨_, hk, fun st' K' he _ h' => by unfold opK; rw [hop]; dsimp only; rw [ev_same he (by simp [Op.operands])]; exact h'⟩
  case assign x => exact ⟨_, hk, fun st' K' he _ h' => by unfold opK; rw [hop]; dsimp only; rw [ev_same he (by simp [Op.operands])]; exact h'⟩
  case pick c x y =>
    obtain ⟨v, h1, h2⟩ := key fn_pickK hk
    exact ⟨v, h1, fun st' K' he _ h' => by unfold opK; rw [hop]; dsimp only; rw [ev_same he (x := c) (by simp [Op.operands]), ev_same he (x := x) (by simp [Op.operands]), ev_same he (x := y) (by simp [Op.operands])]; exact h2 st' K' h'⟩
  case build t parts =>
    obtain ⟨v, h1, h2⟩ := key fn_buildK hk
    exact ⟨v, h1, fun st' K' he _ h' => by unfold opK; rw [hop]; dsimp only; exact buildK_ev (fun p hp => ev_same he (by simp only [Op.operands]; exact List.mem_map.2 ⟨p, hp, rfl⟩)) (h2 st' K' h')⟩
  case buildSlice t n parts =>
    obtain ⟨v, h1, h2⟩ := key fn_buildSliceK hk
    exact ⟨v, h1, fun st' K' he _ h' => by unfold opK; rw [hop]; dsimp only; exact buildSliceK_ev (fun p hp => ev_same he (by simp only [Op.operands]; exact List.mem_map.2 ⟨p, hp, rfl⟩)) (h2 st' K' h')⟩
  case nilCheck x =>
    obtain ⟨v, h1, h2⟩ := key fn_nilCheckK hk
    exact ⟨v, h1, fun st' K' he _ h' => by unfold opK; rw [hop]; dsimp only; rw [ev_same he (by simp [Op.operands])]; exact h2 st' K' h'⟩
  case binOp op xt x y yt =>
    obtain ⟨v, h1, h2⟩ := key (fn_binK (by simpa [isS, EqI.mk'] using ho)) hk
    exact ⟨v, h1, fun st' K' he _ h' => by unfold opK; rw [hop]; dsimp only; rw [ev_same he (x := x) (by simp [Op.operands]), ev_same he (x := y) (by simp [Op.operands])]; exact h2 st' K' h'⟩
  case unOp op xt x =>
    obtain ⟨v, h1, h2⟩ := key fn_unK hk
    exact ⟨v, h1, fun st' K' he _ h' => by unfold opK; rw [hop]; dsimp only; rw [ev_same he (by simp [Op.operands])]; exact h2 st' K' h'⟩
  case convert s t x =>
    obtain ⟨v, h1, h2⟩ := key fn_convK hk
    exact ⟨v, h1, fun st' K' he _ h' => by unfold opK; rw [hop]; dsimp only; rw [ev_same he (by simp [Op.operands])]; exact h2 st' K' h'⟩
  case makeFunc fn first caps =>
    refine ⟨_, hk.2, fun st' K' he _ h' => ?_⟩
    unfold opK; rw [hop]; dsimp only
    have e : caps.toList.map st'.ev = caps.toList.map st.ev := List.map_congr_left fun x hx => ev_same he (by simp [Op.operands]; exact .inr (by simpa using hx))
    rw [e]
    exact ⟨hk.1, h'⟩
  case fieldAddr s x f =>
    obtain ⟨v, h1, h2⟩ := key fn_fieldAddrO hk
    exact ⟨v, h1, fun st' K' he _ h' => by unfold opK; rw [hop]; dsimp only; rw [ev_same he (by simp [Op.operands])]; exact h2 st' K' h'⟩
  case field s x f =>
    obtain ⟨v, h1, h2⟩ := key fn_fieldO hk
    exact ⟨v, h1, fun st' K' he _ h' => by unfold opK; rw [hop]; dsimp only; rw [ev_same he (by simp [Op.operands])]; exact h2 st' K' h'⟩
  case index t x ix =>
    obtain ⟨v, h1, h2⟩ := key fn_indexO hk
    exact ⟨v, h1, fun st' K' he _ h' => by unfold opK; rw [hop]; dsimp only; rw [ev_same he (x := x) (by simp [Op.operands]), ev_same he (x := ix) (by simp [Op.operands])]; exact h2 st' K' h'⟩
  case extract x i =>
    obtain ⟨v, h1, h2⟩ := key fn_extractK hk
    exact ⟨v, h1, fun st' K' he _ h' => by unfold opK; rw [hop]; dsimp only; rw [ev_same he (by simp [Op.operands])]; exact h2 st' K' h'⟩

end Go.T
/- Operations apart may change places. -/
namespace Go.T
open Go

theorem St.ext {s t : St} (h1 : ∀ i, s.slots i = t.slots i) (h2 : s.hp = t.hp) : s = t := by
  cases s; cases t
  simp only at h1 h2
  subst h2
  congr
  exact funext h1

/-- As found, or new. -/
def Sub (h h' : Hp) : Prop := ∀ L, (h.con L).live → h'.con L = h.con L
/-- The variables' cells are aas they were. -/
def BlkEq (h h' : Hp) : Prop := ∀ L, isBlk (h.con L) ∨ isBlk (h'.con L) → h'.con L = h.con L
def BlkUp (h h' : Hp) : Prop := ∀ L, isBlk (h.con L) → h'.con L = h.con L

theorem isBlk.live {c : Con} (h : isBlk c) : c.live := by cases c <;> first | exact h.elim | trivial

theorem loadK_hp {h h' : Hp} (hs : Sub h h') {g : Bool} {n : Nat} {a : AV} {K : AV → Prop} (hk : loadK h g n a K) : loadK h' g n a K := by
  unfold loadK at hk ⊢
  split at hk
  · exact hk
  · rename_i L sz i j
    have hl : (h.con L).live := by
      cases hc : h.con L <;> rw [hc] at hk <;> simp only [loadC] at hk <;> trivial
    rw [hs L hl]; exact hk
  · exact hk.elim
theorem loadK_blk {h h' : Hp} (hs : BlkUp h h') {g : Bool} {n : Nat} {a : AV} {K : AV → Prop} (hb : blkK h a) (hk : loadK h g n a K) : blkK h' a ∧ loadK h' g n a K := by
  unfold loadK at hk ⊢
  unfold blkK at hb ⊢
  split at hk
  · exact ⟨trivial, hk⟩
  · rename_i L sz i j
    simp only at hb ⊢
    rw [hs L hb]; exact ⟨hb, hk⟩
  · exact hk.elim

theorem indexAddrO_hp {P : Program} {k : TK} {h h' : Hp} (hs : Sub h h') {x ix : AV} {K : AV → Prop} (hk : indexAddrO P k h x ix K) : indexAddrO P k h' x ix K := by
  have key : ∀ {o m}, indexAddrK h o m x ix K → indexAddrK h' o m x ix K := by
    intro o m hk
    unfold indexAddrK at hk ⊢
    split at hk
    · split at hk
      · exact hk
      · exact hk
      · exact hk
      · rename_i L _
        have hl : (h.con L).live := by
          cases hc : h.con L <;> rw [hc] at hk <;> simp only [indexC] at hk <;> trivial
        rw [hs L hl]; exact hk
      · rename_i L sz a n _
        rw [hs L (viewC_live hk)]; exact hk
      · exact hk.elim
    · exact hk.elim
  unfold indexAddrO at hk ⊢
  split at hk
  · exact ⟨hk.1, hk.2.1, hk.2.2.1, key hk.2.2.2⟩
  · exact ⟨hk.1, hk.2.1, key hk.2.2⟩
  · exact hk.elim
theorem lenO_hp {P : Program} {t : TypeId} {h h' : Hp} (hs : Sub h h') {x : AV} {K : AV → Prop} (hk : lenO (tk P t) h x K) : lenO (tk P t) h' x K := by
  unfold lenO at hk ⊢
  split at hk
  · exact hk
  · unfold lenK at hk ⊢
    split at hk
    · exact hk
    · rename_i L
      have hl : (h.con L).live := by
        cases hc : h.con L <;> rw [hc] at hk <;> simp only [lenC] at hk <;> trivial
      rw [hs L hl]; exact hk
    · rename_i L sz a n
      rw [hs L (viewC_live hk)]; exact hk
    · exact hk.elim
  · exact hk
  · exact hk.elim
theorem sliceO_hp {P : Program} {k : TK} {h h' : Hp} (hs : Sub h h') {x : AV} {lo hi mx : Option AV} {K : AV → Prop} (hk : sliceO P k h x lo hi mx K) : sliceO P k h' x lo hi mx K := by
  unfold sliceO at hk ⊢
  split at hk
  · rename_i L
    unfold viewP at hk ⊢
    split at hk
    · have hl : (h.con L).live := by
        have := hk.2
        cases hc : h.con L <;> rw [hc] at this <;> simp only [viewO] at this <;> trivial
      simp only [hs L hl]
      exact hk
    · exact hk.elim
  · rename_i L sz a n
    unfold viewP at hk ⊢
    split at hk
    · have hl := viewC_live hk.2.2
      simp only [hs L hl]
      exact hk
    · exact hk.elim
  · exact hk

theorem lookM_fn {h : Hp} {x : AV} {ok : Bool} {z : AV} {cs : List AV} {K : AV → Prop} (hk : lookM h x ok z cs K) : ∃ v, K v ∧ ∀ h', Sub h h' → ∀ K' : AV → Prop, K' v → lookM h' x ok z cs K' := by
  unfold lookM at hk
  split at hk
  · rename_i L
    have hl : (h.con L).live := by
      cases hc : h.con L <;> rw [hc] at hk <;> simp only [lookC] at hk <;> trivial
    unfold lookC at hk
    split at hk
    · rename_i es ck hcon
      obtain ⟨r, hf, hk⟩ := hk
      unfold lookR at hk
      split at hk
      · exact ⟨_, hk, fun h' hs K' h'' => by unfold lookM lookC; simp only [hs L hl, hcon]; exact ⟨_, hf, h''⟩⟩
      · obtain ⟨hi, hk⟩ := hk
        exact ⟨_, hk, fun h' hs K' h'' => by unfold lookM lookC; simp only [hs L hl, hcon]; exact ⟨_, hf, hi, h''⟩⟩
    · exact hk.elim
  · exact ⟨_, hk, fun h' hs K' h'' => by unfold lookM; exact h''⟩
  · exact hk.elim
theorem lookupK_fn {P : Program} {t : TypeId} {h : Hp} {x ix : AV} {ok : Bool} {K : AV → Prop} (hk : lookupK P (tk P t) h x ix ok K) : ∃ v, K v ∧ ∀ h', Sub h h' → ∀ K' : AV → Prop, K' v → lookupK P (tk P t) h' x ix ok K' := by
  unfold lookupK at hk
  split at hk
  · rename_i kt et ht
    obtain ⟨h1, hk⟩ := hk
    unfold keyK at hk
    split at hk
    · rename_i cs
      obtain ⟨h2, h3, h4, hk⟩ := hk
      obtain ⟨v, g1, g2⟩ := lookM_fn hk
      exact ⟨v, g1, fun h'' hs'' K' hK' => by unfold lookupK; rw [ht]; refine ⟨h1, ?_⟩; unfold keyK; exact ⟨h2, h3, h4, g2 h'' hs'' K' hK'⟩⟩
    · exact hk.elim
  · exact hk.elim

theorem quiet_L {P : Program} {fid : Nat} {o : Oper} (ho : isL o.op = true) : Quiet (opK P fid o) o.dst (rd o) Sub := by
  intro st K hk
  unfold opK at hk
  unfold rd
  cases hop : o.op <;> rw [hop] at ho hk <;> (try dsimp only at hk) <;> first | (simp [isL] at ho; done) | skip
  case load t x =>
    obtain ⟨v, h1, h2⟩ := fn_loadK _ hk.2
    exact ⟨v, h1, fun st' K' he hs h' => by unfold opK; rw [hop]; dsimp only; rw [ev_same he (by simp [Op.operands])]; exact ⟨hk.1, loadK_hp hs (h2 (fun v => K' (st'.put o.dst v)) h')⟩⟩
  case indexAddr t x ix =>
    obtain ⟨v, h1, h2⟩ := fn_indexAddrO _ hk
    exact ⟨v, h1, fun st' K' he hs h' => by unfold opK; rw [hop]; dsimp only; rw [ev_same he (x := x) (by simp [Op.operands]), ev_same he (x := ix) (by simp [Op.operands])]; exact indexAddrO_hp hs (h2 (fun v => K' (st'.put o.dst v)) h')⟩
  case slice t x lo hi mx =>
    obtain ⟨v, h1, h2⟩ := fn_sliceO _ hk
    refine ⟨v, h1, fun st' K' he hs h' => ?_⟩
    unfold opK; rw [hop]; dsimp only
    have e1 := ev_same he (x := x) (by simp [Op.operands])
    have e2 : lo.map st'.ev = lo.map st.ev := by cases lo with | none => rfl | some y => simp [ev_same he (x := y) (by simp [Op.operands])]
    have e3 : hi.map st'.ev = hi.map st.ev := by cases hi with | none => rfl | some y => simp [ev_same he (x := y) (by simp [Op.operands])]
    have e4 : mx.map st'.ev = mx.map st.ev := by cases mx with | none => rfl | some y => simp [ev_same he (x := y) (by simp [Op.operands])]
    rw [e1, e2, e3, e4]
    exact sliceO_hp hs (h2 (fun v => K' (st'.put o.dst v)) h')
  case lookup t x ix ok =>
    obtain ⟨v, h1, h2⟩ := lookupK_fn hk
    exact ⟨v, h1, fun st' K' he hs h' => by unfold opK; rw [hop]; dsimp only; rw [ev_same he (x := x) (by simp [Op.operands]), ev_same he (x := ix) (by simp [Op.operands])]; exact h2 _ hs (fun v => K' (st'.put o.dst v)) h'⟩
  case call c =>
    obtain ⟨callee, args, ats⟩ := c
    cases callee with
    | value f => simp [isL] at ho
    | invoke r m => simp [isL] at ho
    | builtin b =>
      cases b <;> first | (simp [isL] at ho; done) | skip
      simp only [calleeK] at hk
      split at hk
      · rename_i x t hx ht
        obtain ⟨v, h1, h2⟩ := fn_lenO _ hk
        refine ⟨v, h1, fun st' K' he hs h' => ?_⟩
        unfold opK; rw [hop]; simp only [calleeK]
        have e : args.toList.map st'.ev = args.toList.map st.ev := List.map_congr_left fun y hy => ev_same he (by simp [Op.operands, Call.operands]; simpa using hy)
        rw [e, hx, ht]
        exact lenO_hp hs (h2 (fun v => K' (st'.put o.dst v)) h')
      · exact hk.elim

theorem quiet_B {P : Program} {fid : Nat} {o : Oper} : Quiet (opT P fid .blk o) o.dst (rd o) BlkUp := by
  intro st K hk
  obtain ⟨hb, hk⟩ := hk
  unfold opK at hk
  unfold rd
  cases hop : o.op <;> rw [hop] at hb hk <;> first | exact hb.elim | skip
  rename_i t x
  simp only [blkO] at hb
  dsimp only at hk
  obtain ⟨v, h1, h2⟩ := fn_loadK _ hk.2
  refine ⟨v, h1, fun st' K' he hs h' => ?_⟩
  have := loadK_blk hs hb (h2 (fun v => K' (st'.put o.dst v)) h')
  simp only [opT]
  unfold opK
  rw [hop]; simp only [blkO]
  rw [ev_same he (x := x) (by simp [Op.operands])]
  exact ⟨this.1, hk.1, this.2⟩

theorem quiet_P {P : Program} {fid : Nat} {o : Oper} : Quiet (opT P fid .pure o) o.dst (rd o) (fun _ _ => True) := by
  intro st K hk
  simp only [opT] at hk
  unfold pureO at hk
  split at hk
  · rename_i f args ats hop
    unfold pureK at hk
    split at hk
    · rename_i g caps hf
      obtain ⟨h1, v, h2, h3⟩ := hk
      refine ⟨v, h3, fun st' K' he _ h' => ?_⟩
      have e1 : st'.ev f = st.ev f := ev_same he (by rw [hop]; simp [Op.operands, Call.operands])
      have e2 : args.toList.map st'.ev = args.toList.map st.ev := List.map_congr_left fun y hy => ev_same he (by rw [hop]; simp [Op.operands, Call.operands]; exact .inr (by simpa using hy))
      simp only [opT, hop, pureO, e1, e2, hf, pureK]
      exact ⟨h1, v, h2, h'⟩
    · exact hk.elim
  · exact hk.elim

/-- An operation with one outcome; the heap turns aas ρ says. -/
def Post (F : St → (St → Prop) → Prop) (dst : Option Nat) (rds : List Nat) (ρ : Hp → Hp → Prop) : Prop :=
  ∀ st K, F st K → ∃ v h, ρ st.hp h ∧ K ((st.withHp h).put dst v) ∧ ∀ (st' : St) (K' : St → Prop), (∀ t ∈ rds, st'.slots t = st.slots t) → st'.hp = st.hp → K' ((st'.withHp h).put dst v) → F st' K'

theorem Quiet.post {F : St → (St → Prop) → Prop} {dst : Option Nat} {rds : List Nat} {σ : Hp → Hp → Prop} (h : Quiet F dst rds σ) (hr : ∀ h, σ h h) : Post F dst rds (fun h h' => h' = h) := by
  intro st K hk
  obtain ⟨v, h1, h2⟩ := h st K hk
  refine ⟨v, st.hp, rfl, h1, fun st' K' he hh h' => h2 st' K' he (by rw [hh]; exact hr _) ?_⟩
  have e : st'.withHp st.hp = st' := by rw [← hh]; rfl
  rw [e] at h'
  exact h'

theorem put_comm {st : St} {d e : Option Nat} {u v : AV} (hne : ∀ x, d = some x → e ≠ some x) : (st.put d u).put e v = (st.put e v).put d u := by
  cases d with
  | none => simp [put_none]
  | some d =>
    cases e with
    | none => simp [put_none]
    | some e =>
      have : d ≠ e := fun h => hne d rfl (by rw [h])
      refine St.ext (fun i => ?_) (by simp [put_hp])
      simp only [put_slots]
      by_cases h1 : i = e
      · by_cases h2 : i = d
        · exact absurd (h2.symm.trans h1) this
        · simp [h1, Ne.symm this]
      · simp [h1]
theorem put_withHp {st : St} {d : Option Nat} {u : AV} {h : Hp} : (st.put d u).withHp h = (st.withHp h).put d u := by
  cases d <;> rfl

theorem agree_put {st : St} {d : Option Nat} {v : AV} {rds : List Nat} (hd : ∀ x, d = some x → x ∉ rds) : ∀ t ∈ rds, (st.put d v).slots t = st.slots t := by
  intro t ht
  cases d with
  | none => rw [put_none]
  | some d =>
    rw [put_slots, if_neg]
    intro hE; subst hE; exact hd _ rfl ht

section
variable {F G : St → (St → Prop) → Prop} {dF dG : Option Nat} {rF rG : List Nat} {σ ρ : Hp → Hp → Prop}

theorem swap_quiet_post (hF : Quiet F dF rF σ) (hG : Post G dG rG ρ) (hσ : ∀ h h', ρ h h' → σ h h') (h1 : ∀ x, dG = some x → x ∉ rF) (h2 : ∀ x, dF = some x → x ∉ rG) (h3 : ∀ x, dF = some x → dG ≠ some x)
    {st : St} {K : St → Prop} (h : F st (fun s => G s K)) : G st (fun s => F s K) := by
  obtain ⟨v, g1, g2⟩ := hF _ _ h
  obtain ⟨u, h', p1, p2, p3⟩ := hG _ _ g1
  rw [put_hp] at p1
  refine p3 st _ (fun t ht => (agree_put h2 t ht).symm) (by rw [put_hp]) ?_
  refine g2 _ _ (fun t ht => ?_) (by rw [put_hp]; exact hσ _ _ p1) ?_
  · rw [agree_put h1 t ht]; rfl
  · rw [put_withHp, put_comm h3] at p2
    exact p2

theorem swap_post_quiet (hF : Post F dF rF ρ) (hG : Quiet G dG rG σ) (hσ : ∀ h h', ρ h h' → σ h' h) (h1 : ∀ x, dG = some x → x ∉ rF) (h2 : ∀ x, dF = some x → x ∉ rG) (h3 : ∀ x, dF = some x → dG ≠ some x)
    {st : St} {K : St → Prop} (h : F st (fun s => G s K)) : G st (fun s => F s K) := by
  obtain ⟨v, h', p1, p2, p3⟩ := hF _ _ h
  obtain ⟨u, g1, g2⟩ := hG _ _ p2
  refine g2 st _ (fun t ht => ?_) (by rw [put_hp]; exact hσ _ _ p1) ?_
  · rw [agree_put h2 t ht]; rfl
  · refine p3 _ _ (fun t ht => agree_put h1 t ht) (by rw [put_hp]) ?_
    rw [put_withHp, ← put_comm h3]
    exact g1

theorem Post.mono {ρ' : Hp → Hp → Prop} (h : Post F dF rF ρ) (hr : ∀ h h', ρ h h' → ρ' h h') : Post F dF rF ρ' := by
  intro st K hk
  obtain ⟨v, h', p1, p2, p3⟩ := h _ _ hk
  exact ⟨v, h', hr _ _ p1, p2, p3⟩
end

theorem alloc_sub {h : Hp} {f s : Nat} {c : Con} : Sub h (h.alloc f s c) := by
  intro L hl
  exact alloc_con_ne (f := f) (s := s) (c := c) (by
    intro hE
    have := h.ok L (by rw [hE]; simp [Hp.fresh])
    rw [this] at hl; exact hl.elim)

theorem alloc_blk {h : Hp} {f s sz : Nat} {xs : List AV} : BlkEq h (h.alloc f s (.arr sz xs)) := by
  intro L hl
  by_cases hE : L = h.fresh f s
  · subst hE
    rw [alloc_con_eq] at hl
    rcases hl with hl | hl
    · have := h.ok (h.fresh f s) (by simp [Hp.fresh])
      rw [this] at hl; exact hl.elim
    · exact hl.elim
  · exact alloc_con_ne hE

theorem post_alloc {P : Program} {fid : Nat} {o : Oper} (ho : (∃ t, o.op = .alloc t) ∨ ∃ t x, o.op = .box t x) : Post (opK P fid o) o.dst (rd o) Sub := by
  intro st K hk
  unfold opK at hk
  unfold rd
  rcases ho with ⟨t, hop⟩ | ⟨t, x, hop⟩ <;> rw [hop] at hk <;> dsimp only at hk
  · refine ⟨_, _, alloc_sub, hk.2, fun st' K' he hh h' => ?_⟩
    unfold opK; rw [hop]; dsimp only
    rw [hh]; exact ⟨hk.1, h'⟩
  · obtain ⟨h1, h2⟩ := hk
    refine ⟨_, _, alloc_sub, h2, fun st' K' he hh h' => ?_⟩
    unfold opK; rw [hop]; dsimp only
    rw [hh, ev_same he (x := x) (by rw [hop]; simp [Op.operands])]; exact ⟨h1, h'⟩

theorem post_makeSlice {P : Program} {fid : Nat} {o : Oper} {t : TypeId} {x y : Operand} (hop : o.op = .makeSlice t x y) : Post (opK P fid o) o.dst (rd o) (fun h h' => Sub h h' ∧ BlkEq h h') := by
  intro st K hk
  unfold opK at hk
  unfold rd
  rw [hop] at hk; dsimp only at hk
  unfold makeSliceO at hk
  split at hk
  · rename_i e hte
    obtain ⟨q1, hk⟩ := hk
    unfold makeSliceK at hk
    split at hk
    · rename_i a b hx hy
      obtain ⟨q2, q3, q4, q5, q6, q7, hk⟩ := hk
      refine ⟨_, _, ⟨alloc_sub, alloc_blk⟩, hk, fun st' K' he hh h' => ?_⟩
      unfold opK; rw [hop]; dsimp only
      rw [hh, ev_same he (x := x) (by rw [hop]; simp [Op.operands]), ev_same he (x := y) (by rw [hop]; simp [Op.operands])]
      unfold makeSliceO
      rw [hte, hx, hy]
      exact ⟨q1, q2, q3, q4, q5, q6, q7, h'⟩
    · exact hk.elim
  · exact hk.elim

theorem post_append {P : Program} {fid : Nat} {o : Oper} {args : Array Operand} {ats : Array TypeId} (hop : o.op = .call ⟨.builtin .append, args, ats⟩) : Post (opK P fid o) o.dst (rd o) BlkEq := by
  intro st K hk
  unfold opK at hk
  unfold rd
  rw [hop] at hk; simp only [calleeK] at hk
  split at hk
  · rename_i x y t u hx ht
    have rerun : ∀ {v h'}, (∀ K' : AV → Hp → Prop, K' v h' → appendO P (tk P t) (tk P u) st.hp fid (o.dst.getD 0) x y K') → ∀ (st' : St) (K' : St → Prop), (∀ q ∈ tmpsOf (o.op.operands.toList), st'.slots q = st.slots q) → st'.hp = st.hp → K' ((st'.withHp h').put o.dst v) → opK P fid o st' K' := by
      intro v h' hr st' K' he hh h''
      unfold opK; rw [hop]; simp only [calleeK]
      have e : args.toList.map st'.ev = args.toList.map st.ev := List.map_congr_left fun y hy => ev_same he (by rw [hop]; simp [Op.operands, Call.operands]; simpa using hy)
      rw [e, hx, ht, hh]
      exact hr (fun r h => K' ((st'.withHp h).put o.dst r)) h''
    unfold appendO at hk
    split at hk
    · rename_i el _ h1 h2
      obtain ⟨q1, hk⟩ := hk
      unfold appendK appendY at hk
      split at hk
      · rename_i sz' ys hel
        obtain ⟨q2, hk⟩ := hk
        unfold appendX at hk
        split at hk
        · obtain ⟨q3, q4, q5, hk⟩ := hk
          exact ⟨_, _, alloc_blk, hk, rerun fun K' h' => by unfold appendO; rw [h1, h2]; refine ⟨q1, ?_⟩; unfold appendK appendY; rw [hel]; exact ⟨q2, q3, q4, q5, h'⟩⟩
        · rename_i L
          unfold appendC at hk
          split at hk
          · rename_i sz'' xs hcon
            obtain ⟨q3, q4, q5, q6, hk⟩ := hk
            refine ⟨_, _, ?_, hk, rerun fun K' h' => by unfold appendO; rw [h1, h2]; refine ⟨q1, ?_⟩; unfold appendK appendY; rw [hel]; refine ⟨q2, ?_⟩; unfold appendX appendC; simp only [hcon]; exact ⟨q3, q4, q5, q6, h'⟩⟩
            intro M hM
            have hs : BlkEq st.hp (st.hp.set L .none) := by
              intro M hM
              by_cases hE : M = L
              · subst hE
                rw [hcon, set_con_dead] at hM
                rcases hM with h | h <;> exact h.elim
              · exact set_con_ne hE
            have ha := alloc_blk (h := st.hp.set L .none) (f := fid) (s := o.dst.getD 0) (sz := tsz P el) (xs := xs ++ ys)
            rcases hM with hM | hM
            · have e1 := hs M (.inl hM)
              rw [ha M (.inl (by rw [e1]; exact hM)), e1]
            · have e1 := ha M (.inr hM)
              rw [e1, hs M (.inr (by rw [← e1]; exact hM))]
          · exact hk.elim
        · rename_i L sz0 a0 n0
          unfold appendW at hk
          split at hk
          · rename_i sz'' xs hcon
            obtain ⟨q3, q3', q3'', q4, q5, q6, hk⟩ := hk
            refine ⟨_, _, ?_, hk, rerun fun K' h' => by unfold appendO; rw [h1, h2]; refine ⟨q1, ?_⟩; unfold appendK appendY; rw [hel]; refine ⟨q2, ?_⟩; unfold appendX appendW; simp only [hcon]; exact ⟨q3, q3', q3'', q4, q5, q6, h'⟩⟩
            intro M hM
            have hs : BlkEq st.hp (st.hp.set L .none) := by
              intro M hM
              by_cases hE : M = L
              · subst hE
                rw [hcon, set_con_dead] at hM
                rcases hM with h | h <;> exact h.elim
              · exact set_con_ne hE
            have ha := alloc_blk (h := st.hp.set L .none) (f := fid) (s := o.dst.getD 0) (sz := tsz P el) (xs := (xs.drop a0).take n0 ++ ys)
            rcases hM with hM | hM
            · have e1 := hs M (.inl hM)
              rw [ha M (.inl (by rw [e1]; exact hM)), e1]
            · have e1 := ha M (.inr hM)
              rw [e1, hs M (.inr (by rw [← e1]; exact hM))]
          · exact hk.elim
        · exact hk.elim
      · exact hk.elim
    · exact hk.elim
  · exact hk.elim

theorem post_store {P : Program} {fid : Nat} {o : Oper} {t : TypeId} {x y : Operand} (hop : o.op = .store t x y) : Post (opK P fid o) o.dst (rd o) (fun _ _ => True) := by
  intro st K hk
  unfold opK at hk
  unfold rd
  rw [hop] at hk; dsimp only at hk
  obtain ⟨q1, q2, q3, hk⟩ := hk
  have rerun : ∀ {h'}, (∀ K' : Hp → Prop, K' h' → storeP st.hp (tsz P t) (st.ev x) (st.ev y).cells K') → ∀ (st' : St) (K' : St → Prop), (∀ q ∈ tmpsOf (o.op.operands.toList), st'.slots q = st.slots q) → st'.hp = st.hp → K' ((st'.withHp h').put o.dst .un) → opK P fid o st' K' := by
    intro h' hr st' K' he hh h''
    unfold opK; rw [hop]; dsimp only
    rw [ev_same he (x := x) (by rw [hop]; simp [Op.operands]), ev_same he (x := y) (by rw [hop]; simp [Op.operands]), hh]
    exact ⟨q1, q2, q3, hr (fun h => K' ((st'.withHp h).put o.dst .un)) h''⟩
  unfold storeP at hk
  split at hk
  · rename_i L sz i j hx
    unfold storeC at hk
    split at hk
    · rename_i cs hcon
      obtain ⟨h1, h2, hk⟩ := hk
      exact ⟨.un, _, trivial, hk, rerun fun K' h' => by unfold storeP storeC; rw [hx]; simp only [hcon]; exact ⟨h1, h2, h'⟩⟩
    · rename_i sz' xs hcon
      obtain ⟨h1, hi, h2, hk⟩ := hk
      exact ⟨.un, _, trivial, hk, rerun fun K' h' => by unfold storeP storeC; rw [hx]; simp only [hcon]; exact ⟨h1, hi, h2, h'⟩⟩
    · exact hk.elim
  · exact hk.elim

theorem alloc_blk' {h : Hp} {f s : Nat} {c : Con} (hc : ¬ isBlk c) : BlkEq h (h.alloc f s c) := by
  intro L hl
  by_cases hE : L = h.fresh f s
  · subst hE
    rw [alloc_con_eq] at hl
    rcases hl with hl | hl
    · have := h.ok (h.fresh f s) (by simp [Hp.fresh])
      rw [this] at hl; exact hl.elim
    · exact absurd hl hc
  · exact alloc_con_ne hE

theorem set_mp_blk {h : Hp} {L : Lab} {es es' : List (AV × AV × Nat)} {ck ck' : Nat} (hcon : h.con L = .mp es ck) : BlkEq h (h.set L (.mp es' ck')) := by
  intro M hM
  by_cases hE : M = L
  · subst hE
    have hlive : (h.con M).live := by rw [hcon]; trivial
    rw [set_con_eq hlive, hcon] at hM
    rcases hM with h | h <;> exact h.elim
  · exact set_con_ne hE

theorem post_makeMap {P : Program} {fid : Nat} {o : Oper} {t : TypeId} {r : Option Operand} (hop : o.op = .makeMap t r) : Post (opK P fid o) o.dst (rd o) (fun h h' => Sub h h' ∧ BlkEq h h') := by
  intro st K hk
  unfold opK at hk
  rw [hop] at hk
  cases r with
  | some r => exact hk.elim
  | none =>
    dsimp only at hk
    refine ⟨_, _, ⟨alloc_sub, alloc_blk' (c := .mp [] 0) (fun h => h)⟩, hk, fun st' K' he hh h' => ?_⟩
    unfold opK; rw [hop]; dsimp only
    rw [hh]; exact h'

theorem post_mapEntry {P : Program} {fid : Nat} {o : Oper} {t : TypeId} {x y : Operand} (hop : o.op = .mapEntry t x y) : Post (opK P fid o) o.dst (rd o) BlkEq := by
  intro st K hk
  unfold opK at hk
  unfold rd
  rw [hop] at hk; dsimp only at hk
  have main : ∃ v h', BlkEq st.hp h' ∧ K ((st.withHp h').put o.dst v) ∧ ∀ K' : AV → Hp → Prop, K' v h' → mapEntryK P (tk P t) st.hp (st.ev x) (st.ev y) K' := by
    unfold mapEntryK at hk
    split at hk
    · rename_i kt et ht
      obtain ⟨h1, hk⟩ := hk
      unfold keyK at hk
      split at hk
      · rename_i cs hy
        obtain ⟨h2, h3, h4, hk⟩ := hk
        have re : ∀ {K' : AV → Hp → Prop}, entryM st.hp (st.ev x) (tzero P et) cs K' → mapEntryK P (tk P t) st.hp (st.ev x) (st.ev y) K' := by
          intro K' hK'
          unfold mapEntryK; rw [ht, hy]; refine ⟨h1, ?_⟩; unfold keyK; exact ⟨h2, h3, h4, hK'⟩
        unfold entryM at hk
        split at hk
        · rename_i L hx
          unfold entryC at hk
          split at hk
          · rename_i es ck hcon
            obtain ⟨r, hf, hk⟩ := hk
            unfold entryR at hk
            split at hk
            · refine ⟨_, _, set_mp_blk hcon, hk, fun K' hK' => ?_⟩
              have := re (K' := K') (by unfold entryM entryC; rw [hx]; dsimp only; rw [hcon]; exact ⟨_, hf, hK'⟩)
              exact this
            · obtain ⟨hi, hk⟩ := hk
              refine ⟨_, _, fun _ _ => rfl, hk, fun K' hK' => ?_⟩
              have := re (K' := K') (by unfold entryM entryC; rw [hx]; dsimp only; rw [hcon]; exact ⟨_, hf, hi, hK'⟩)
              exact this
          · exact hk.elim
        · exact hk.elim
      · exact hk.elim
    · exact hk.elim
  obtain ⟨v, h', m1, m2, m3⟩ := main
  refine ⟨v, h', m1, m2, fun st' K' he hh hK' => ?_⟩
  unfold opK; rw [hop]; dsimp only
  rw [ev_same he (x := x) (by rw [hop]; simp [Op.operands]), ev_same he (x := y) (by rw [hop]; simp [Op.operands]), hh]
  exact m3 (fun v h => K' ((st'.withHp h).put o.dst v)) hK'

theorem post_entryStore {P : Program} {fid : Nat} {o : Oper} {t : TypeId} {x s y : Operand} (hop : o.op = .entryStore t x s y) : Post (opK P fid o) o.dst (rd o) BlkEq := by
  intro st K hk
  unfold opK at hk
  unfold rd
  rw [hop] at hk; dsimp only at hk
  have main : ∃ h', BlkEq st.hp h' ∧ K ((st.withHp h').put o.dst .un) ∧ ∀ K' : Hp → Prop, K' h' → entryStoreK st.hp (st.ev x) (st.ev s) (st.ev y) K' := by
    unfold entryStoreK at hk
    split at hk
    · rename_i L b hx hs
      unfold estoreC at hk
      split at hk
      · rename_i es ck hcon
        unfold estoreR at hk
        split at hk
        · rename_i i hf
          obtain ⟨hi, hk⟩ := hk
          refine ⟨_, set_mp_blk hcon, hk, fun K' hK' => ?_⟩
          rw [hx, hs]
          unfold entryStoreK estoreC
          dsimp only
          rw [hcon]
          dsimp only
          unfold estoreR
          rw [hf]
          exact ⟨hi, hK'⟩
        · exact hk.elim
      · exact hk.elim
    · exact hk.elim
  obtain ⟨h', m1, m2, m3⟩ := main
  refine ⟨.un, h', m1, m2, fun st' K' he hh hK' => ?_⟩
  unfold opK; rw [hop]; dsimp only
  rw [ev_same he (x := x) (by rw [hop]; simp [Op.operands]), ev_same he (x := s) (by rw [hop]; simp [Op.operands]), ev_same he (x := y) (by rw [hop]; simp [Op.operands]), hh]
  exact m3 (fun h => K' ((st'.withHp h).put o.dst .un)) hK'

end Go.T
/- Regions whose order is drawn: one order stands for all. -/
namespace Go.T
open Go

/-- The slot of an operation's guard. -/
def gsl (ops : List Oper) (o : Oper) : List Nat :=
  match o.guard with
  | none => []
  | some (j, _) => (match (ops[j]?).bind (·.dst) with
    | some d => [d]
    | none => [])
def rdG (ops : List Oper) (o : Oper) : List Nat := gsl ops o ++ rd o

theorem put_same {st : St} {d : Nat} {v : AV} (h : st.slots d = v) : st.put (some d) v = st := by
  refine St.ext (fun i => ?_) (by rw [put_hp])
  rw [put_slots]
  by_cases hi : i = d
  · subst hi; rw [if_pos rfl, h]
  · rw [if_neg hi]

/-- Whether an operation runs: its guard. -/
def acts (ops : List Oper) (o : Oper) (st : St) : Option Bool :=
  match o.guard with
  | none => some true
  | some (j, want) => (match (ops[j]?).bind (·.dst) with
    | none => none
    | some d => (match st.slots d with
      | .bool b => some (b == want)
      | .un => some false
      | _ => none))

theorem stepT_acts {P : Program} {fid : Nat} {ops : List Oper} {tg : Tg} {o : Oper} {st : St} {K : St → Prop} :
    stepT P fid ops tg o st K ↔ (acts ops o st = some true ∧ opT P fid tg o st K) ∨ (acts ops o st = some false ∧ K (st.put o.dst .un)) := by
  unfold stepT acts guardG
  cases hg : o.guard with
  | none => simp
  | some p =>
    obtain ⟨j, want⟩ := p
    simp only
    cases hj : (ops[j]?).bind (·.dst) with
    | none => simp [guardO]
    | some d =>
      simp only [guardO]
      cases hv : st.slots d <;> simp only [guardK]
      case bool b =>
        by_cases hb : b = want
        · subst hb
          rw [put_same hv]
          cases b <;> simp
        · have : b = !want := by cases b <;> cases want <;> simp_all
          subst this
          rw [put_same hv]
          cases want <;> simp
      all_goals simp

theorem acts_same {ops : List Oper} {o : Oper} {st st' : St} (h : ∀ t ∈ gsl ops o, st'.slots t = st.slots t) : acts ops o st' = acts ops o st := by
  unfold acts
  unfold gsl at h
  cases hg : o.guard with
  | none => rfl
  | some p =>
    obtain ⟨j, want⟩ := p
    rw [hg] at h
    simp only at h ⊢
    cases hj : (ops[j]?).bind (·.dst) with
    | none => rfl
    | some d =>
      rw [hj] at h
      simp only
      rw [h d (by simp)]

section
variable {P : Program} {fid : Nat} {ops : List Oper} {tg : Tg} {o : Oper} {σ ρ : Hp → Hp → Prop}

theorem Quiet.step (h : Quiet (opT P fid tg o) o.dst (rd o) σ) : Quiet (stepT P fid ops tg o) o.dst (rdG ops o) σ := by
  intro st K hk
  rcases stepT_acts.1 hk with ⟨ha, hk⟩ | ⟨ha, hk⟩
  · obtain ⟨v, h1, h2⟩ := h _ _ hk
    exact ⟨v, h1, fun st' K' he hs h' => stepT_acts.2 (.inl ⟨by rw [acts_same (fun t ht => he t (List.mem_append_left _ ht))]; exact ha, h2 _ _ (fun t ht => he t (List.mem_append_right _ ht)) hs h'⟩)⟩
  · exact ⟨.un, hk, fun st' K' he _ h' => stepT_acts.2 (.inr ⟨by rw [acts_same (fun t ht => he t (List.mem_append_left _ ht))]; exact ha, h'⟩)⟩

theorem Post.step (h : Post (opT P fid tg o) o.dst (rd o) ρ) (hr : ∀ h, ρ h h) : Post (stepT P fid ops tg o) o.dst (rdG ops o) ρ := by
  intro st K hk
  rcases stepT_acts.1 hk with ⟨ha, hk⟩ | ⟨ha, hk⟩
  · obtain ⟨v, h', h0, h1, h2⟩ := h _ _ hk
    exact ⟨v, h', h0, h1, fun st' K' he hs h' => stepT_acts.2 (.inl ⟨by rw [acts_same (fun t ht => he t (List.mem_append_left _ ht))]; exact ha, h2 _ _ (fun t ht => he t (List.mem_append_right _ ht)) hs h'⟩)⟩
  · exact ⟨.un, st.hp, hr _, hk, fun st' K' he hs h' => stepT_acts.2 (.inr ⟨by rw [acts_same (fun t ht => he t (List.mem_append_left _ ht))]; exact ha, by rw [← hs] at h'; exact h'⟩)⟩
end

def isAl : Op → Bool
  | .alloc _ => true
  | .box _ _ => true
  | _ => false
def isMk : Op → Bool
  | .makeSlice _ _ _ => true
  | .makeMap _ _ => true
  | _ => false
def isMe : Op → Bool
  | .mapEntry _ _ _ => true
  | .entryStore _ _ _ _ => true
  | _ => false
def isAp : Op → Bool
  | .call ⟨.builtin .append, _, _⟩ => true
  | _ => false
def isSt : Op → Bool
  | .store _ _ _ => true
  | _ => false
def isCv : Op → Bool
  | .call ⟨.value _, _, _⟩ => true
  | _ => false

def qS (tg : Tg) (o : Oper) : Bool := match tg with
  | .plain => isS o.op
  | .pure => true
  | _ => false
def qL (tg : Tg) (o : Oper) : Bool := match tg with
  | .plain => isL o.op
  | .avoid _ => isL o.op
  | .frz => true
  | _ => false
def qB (tg : Tg) (_ : Oper) : Bool := match tg with
  | .blk => true
  | _ => false
def pSub (tg : Tg) (o : Oper) : Bool := match tg with
  | .plain => isAl o.op || isMk o.op
  | _ => false
def pBlk (tg : Tg) (o : Oper) : Bool := match tg with
  | .plain => isMk o.op || isAp o.op || isMe o.op
  | _ => false
def pAny (tg : Tg) (o : Oper) : Bool := match tg with
  | .plain => isAl o.op || isMk o.op || isAp o.op || isMe o.op || isSt o.op
  | .mine => isSt o.op
  | _ => false
def quiet (tg : Tg) (o : Oper) : Bool := qS tg o || qL tg o || qB tg o
def post (tg : Tg) (o : Oper) : Bool := quiet tg o || pAny tg o
def calls (tg : Tg) (o : Oper) : Bool := match tg with
  | .plain => isCv o.op
  | _ => false

section
variable {P : Program} {fid : Nat} {ops : List Oper} {tg : Tg} {o : Oper}

theorem qS_sound (h : qS tg o = true) : Quiet (opT P fid tg o) o.dst (rd o) (fun _ _ => True) := by
  cases tg <;> simp only [qS] at h <;> first | exact absurd h Bool.false_ne_true | skip
  · exact quiet_S h
  · exact quiet_P
theorem elems_hp {h h' : Hp} (hs : Sub h h') {y : AV} {p : Nat × List AV} (hy : elemsOf h y = some p) : elemsOf h' y = some p := by
  cases y with
  | os L =>
    have hl : (h.con L).live := by
      simp only [elemsOf] at hy
      cases hc : h.con L <;> rw [hc] at hy <;> first | trivial | cases hy
    simp only [elemsOf] at hy ⊢
    rw [hs L hl]; exact hy
  | sl L sz a n =>
    have hl : (h.con L).live := by
      simp only [elemsOf] at hy
      cases hc : h.con L <;> rw [hc] at hy <;> first | trivial | cases hy
    simp only [elemsOf] at hy ⊢
    rw [hs L hl]; exact hy
  | _ => exact hy
theorem quiet_F : Quiet (opT P fid .frz o) o.dst (rd o) Sub := by
  intro st K hk
  simp only [opT] at hk
  unfold frzO at hk
  split at hk
  · rename_i args ats hop
    unfold frzL at hk
    split at hk
    · rename_i x y t u hx ht
      unfold frzA at hk
      split at hk
      · rename_i el el' hk1 hk2
        obtain ⟨h1, hk⟩ := hk
        unfold appendY at hk
        split at hk
        · rename_i sz' ys hel
          obtain ⟨h2, hk⟩ := hk
          unfold frzX at hk
          split at hk
          · rename_i sz0
            obtain ⟨h3, h4, h5, hk⟩ := hk
            refine ⟨_, hk, fun st' K' he hs h' => ?_⟩
            have e : args.toList.map st'.ev = args.toList.map st.ev := List.map_congr_left fun y hy => ev_same he (by rw [hop]; simp [Op.operands, Call.operands]; simpa using hy)
            simp only [opT]
            unfold frzO; rw [hop]; dsimp only
            rw [e, hx, ht]
            unfold frzL frzA; dsimp only
            rw [hk1, hk2]
            refine ⟨h1, ?_⟩
            unfold appendY
            rw [elems_hp hs hel]
            exact ⟨h2, h3, h4, h5, h'⟩
          · exact hk.elim
        · exact hk.elim
      · exact hk.elim
    · exact hk.elim
  · exact hk.elim
theorem qL_sound (h : qL tg o = true) : Quiet (opT P fid tg o) o.dst (rd o) Sub := by
  cases tg <;> simp only [qL] at h <;> first | exact absurd h Bool.false_ne_true | skip
  · exact quiet_L h
  · intro st K hk
    obtain ⟨ha, hk⟩ := hk
    obtain ⟨v, h1, h2⟩ := quiet_L h _ _ hk
    refine ⟨v, h1, fun st' K' he hs h' => ⟨?_, h2 _ _ he hs h'⟩⟩
    unfold avoidO at ha ⊢
    unfold rd at he
    cases hop : o.op <;> rw [hop] at ha he <;> first | exact ha.elim | skip
    rename_i t x
    simp only at ha ⊢
    rw [ev_same he (x := x) (by simp [Op.operands])]; exact ha
  · exact quiet_F
theorem qB_sound (h : qB tg o = true) : Quiet (opT P fid tg o) o.dst (rd o) BlkUp := by
  cases tg <;> simp only [qB] at h <;> first | exact absurd h Bool.false_ne_true | skip
  exact quiet_B
theorem BlkUp.of_sub {h h' : Hp} (hs : Sub h h') : BlkUp h h' := fun L hl => hs L hl.live
theorem quiet_sound (h : quiet tg o = true) : Quiet (opT P fid tg o) o.dst (rd o) (fun h h' => h' = h) := by
  simp only [quiet, Bool.or_eq_true] at h
  have weak : ∀ {σ : Hp → Hp → Prop}, (∀ h, σ h h) → Quiet (opT P fid tg o) o.dst (rd o) σ → Quiet (opT P fid tg o) o.dst (rd o) (fun h h' => h' = h) := by
    intro σ hσ hq st K hk
    obtain ⟨v, h1, h2⟩ := hq _ _ hk
    exact ⟨v, h1, fun st' K' he hs h' => h2 _ _ he (by rw [hs]; exact hσ _) h'⟩
  rcases h with (h | h) | h
  · exact weak (fun _ => trivial) (qS_sound h)
  · exact weak (fun _ _ _ => rfl) (qL_sound h)
  · exact weak (fun _ _ _ => rfl) (qB_sound h)
theorem al_op (h : isAl o.op = true) : (∃ t, o.op = .alloc t) ∨ ∃ t x, o.op = .box t x := by
  cases hop : o.op <;> rw [hop] at h <;> first | (simp [isAl] at h; done) | skip
  · exact .inl ⟨_, rfl⟩
  · exact .inr ⟨_, _, rfl⟩
theorem mk_post (h : isMk o.op = true) : Post (opK P fid o) o.dst (rd o) (fun h h' => Sub h h' ∧ BlkEq h h') := by
  cases hop : o.op <;> rw [hop] at h <;> first | (simp [isMk] at h; done) | skip
  · exact post_makeMap hop
  · exact post_makeSlice hop
theorem me_post (h : isMe o.op = true) : Post (opK P fid o) o.dst (rd o) BlkEq := by
  cases hop : o.op <;> rw [hop] at h <;> first | (simp [isMe] at h; done) | skip
  · exact post_mapEntry hop
  · exact post_entryStore hop
theorem st_op (h : isSt o.op = true) : ∃ t x y, o.op = .store t x y := by
  cases hop : o.op <;> rw [hop] at h <;> first | (simp [isSt] at h; done) | skip
  exact ⟨_, _, _, rfl⟩
theorem ap_op (h : isAp o.op = true) : ∃ args ats, o.op = .call ⟨.builtin .append, args, ats⟩ := by
  cases hop : o.op <;> rw [hop] at h <;> first | (simp [isAp] at h; done) | skip
  rename_i c
  obtain ⟨callee, args, ats⟩ := c
  cases callee with
  | value f => simp [isAp] at h
  | invoke r m => simp [isAp] at h
  | builtin b => cases b <;> first | (simp [isAp] at h; done) | exact ⟨_, _, rfl⟩
theorem cv_op (h : isCv o.op = true) : ∃ f args ats, o.op = .call ⟨.value f, args, ats⟩ := by
  cases hop : o.op <;> rw [hop] at h <;> first | (simp [isCv] at h; done) | skip
  rename_i c
  obtain ⟨callee, args, ats⟩ := c
  cases callee with
  | value f => exact ⟨_, _, _, rfl⟩
  | invoke r m => simp [isCv] at h
  | builtin b => simp [isCv] at h

theorem pSub_sound (h : pSub tg o = true) : Post (opT P fid tg o) o.dst (rd o) Sub := by
  cases tg <;> simp only [pSub, Bool.or_eq_true] at h <;> first | exact absurd h Bool.false_ne_true | skip
  rcases h with h | h
  · exact post_alloc (al_op h)
  · exact (mk_post h).mono fun _ _ h => h.1
theorem pBlk_sound (h : pBlk tg o = true) : Post (opT P fid tg o) o.dst (rd o) BlkEq := by
  cases tg <;> simp only [pBlk, Bool.or_eq_true] at h <;> first | exact absurd h Bool.false_ne_true | skip
  rcases h with (h | h) | h
  · exact (mk_post h).mono fun _ _ h => h.2
  · obtain ⟨args, ats, hop⟩ := ap_op h
    exact post_append hop
  · exact me_post h
theorem mine_store {t : TypeId} {x y : Operand} (hop : o.op = .store t x y) : Post (opT P fid .mine o) o.dst (rd o) (fun h h' => ∀ L, ¬ (L.f = fid ∧ x = .tmp L.s) → h'.con L = h.con L) := by
  intro st K hk
  obtain ⟨ha, hk⟩ := hk
  unfold mineO at ha
  rw [hop] at ha
  cases x with
  | tmp q =>
    simp only at ha
    have hk' := hk
    unfold opK at hk'
    rw [hop] at hk'
    simp only at hk'
    obtain ⟨q1, q2, q3, hk'⟩ := hk'
    obtain ⟨v, h', _, p2, p3⟩ := post_store hop _ _ hk
    -- the heap behind the store
    have main : ∃ h', (∀ L, ¬ (L.f = fid ∧ Operand.tmp q = .tmp L.s) → h'.con L = st.hp.con L) ∧ K ((st.withHp h').put o.dst .un) ∧ ∀ K' : Hp → Prop, K' h' → storeP st.hp (tsz P t) (st.ev (.tmp q)) (st.ev y).cells K' := by
      unfold storeP at hk'
      unfold mineK at ha
      simp only [St.ev] at hk' ⊢
      split at hk'
      · rename_i L sz i j hx
        rw [hx] at ha
        have hne : ∀ {c : Con} (M : Lab), ¬ (M.f = fid ∧ Operand.tmp q = .tmp M.s) → (st.hp.set L c).con M = st.hp.con M := by
          intro c M hM
          apply set_con_ne
          intro hE
          subst hE
          exact hM ⟨ha.1, by rw [ha.2]⟩
        unfold storeC at hk'
        split at hk'
        · rename_i cs hcon
          obtain ⟨h1, h2, hk'⟩ := hk'
          exact ⟨_, fun M hM => hne M hM, hk', fun K' h' => by rw [hx]; unfold storeP storeC; dsimp only; rw [hcon]; exact ⟨h1, h2, h'⟩⟩
        · rename_i sz' xs hcon
          obtain ⟨h1, hi, h2, hk'⟩ := hk'
          exact ⟨_, fun M hM => hne M hM, hk', fun K' h' => by rw [hx]; unfold storeP storeC; dsimp only; rw [hcon]; exact ⟨h1, hi, h2, h'⟩⟩
        · exact hk'.elim
      · exact hk'.elim
    obtain ⟨h'', m1, m2, m3⟩ := main
    refine ⟨.un, h'', m1, m2, fun st' K' he hh hK' => ?_⟩
    unfold rd at he
    have e1 : st'.ev (.tmp q) = st.ev (.tmp q) := ev_same he (by rw [hop]; simp [Op.operands])
    have e2 : st'.ev y = st.ev y := ev_same he (by rw [hop]; simp [Op.operands])
    refine ⟨?_, ?_⟩
    · unfold mineO; rw [hop]; simp only
      have : st'.slots q = st.slots q := e1
      rw [this]; exact ha
    · unfold opK; rw [hop]; dsimp only
      rw [e1, e2, hh]
      exact ⟨q1, q2, q3, m3 (fun h => K' ((st'.withHp h).put o.dst .un)) hK'⟩
  | _ => exact ha.elim

theorem post_sound (h : post tg o = true) : Post (opT P fid tg o) o.dst (rd o) (fun _ _ => True) := by
  simp only [post, Bool.or_eq_true] at h
  rcases h with h | h
  · exact ((quiet_sound h).post (fun _ => rfl)).mono fun _ _ _ => trivial
  · cases tg <;> simp only [pAny, Bool.or_eq_true] at h <;> first | exact absurd h Bool.false_ne_true | skip
    · rcases h with (((h | h) | h) | h) | h
      · exact (post_alloc (al_op h)).mono fun _ _ _ => trivial
      · exact (mk_post h).mono fun _ _ _ => trivial
      · obtain ⟨args, ats, hop⟩ := ap_op h
        exact (post_append hop).mono fun _ _ _ => trivial
      · exact (me_post h).mono fun _ _ _ => trivial
      · obtain ⟨t, x, y, hop⟩ := st_op h
        exact post_store hop
    · obtain ⟨t, x, y, hop⟩ := st_op h
      exact (mine_store hop).mono fun _ _ _ => trivial

theorem calls_mono (h : calls tg o = true) {st : St} {K K' : St → Prop} (hk : opT P fid tg o st K) (hK : ∀ s, K s → K' s) : opT P fid tg o st K' := by
  cases tg <;> simp only [calls] at h <;> first | exact absurd h Bool.false_ne_true | skip
  obtain ⟨f, args, ats, hop⟩ := cv_op h
  simp only [opT] at hk ⊢
  unfold opK at hk ⊢
  rw [hop] at hk ⊢
  simp only [calleeK, Callee.ev] at hk ⊢
  unfold callV at hk ⊢
  split at hk
  · exact ⟨hk.1, hk.2.mono fun _ _ h => hK _ h⟩
  · exact hk.mono fun _ _ h => hK _ h
  · exact hk.elim

theorem step_mono (h : (post tg o || calls tg o) = true) {st : St} {K K' : St → Prop} (hk : stepT P fid ops tg o st K) (hK : ∀ s, K s → K' s) : stepT P fid ops tg o st K' := by
  rcases stepT_acts.1 hk with ⟨ha, hk⟩ | ⟨ha, hk⟩
  · refine stepT_acts.2 (.inl ⟨ha, ?_⟩)
    simp only [Bool.or_eq_true] at h
    rcases h with h | h
    · obtain ⟨v, h', _, h1, h2⟩ := post_sound h _ _ hk
      exact h2 st K' (fun _ _ => rfl) rfl (hK _ h1)
    · exact calls_mono h hk hK
  · exact stepT_acts.2 (.inr ⟨ha, hK _ hk⟩)

end

end Go.T
/- Regions whose order is drawn, second part: any order that the edges allow comes to the one of the numbers. -/
namespace Go.T
open Go
set_option linter.unusedSimpArgs false

/-- Two operations of which neither writes what the other reads or writes. -/
def noConf (ops : List Oper) (x i : Oper) : Bool :=
  (match i.dst with | some d => !(rdG ops x).contains d | none => true) &&
  (match x.dst with | some d => !(rdG ops i).contains d && !(i.dst == some d) | none => true)

theorem noConf_spec {ops : List Oper} {x i : Oper} (h : noConf ops x i = true) :
    (∀ d, i.dst = some d → d ∉ rdG ops x) ∧ (∀ d, x.dst = some d → d ∉ rdG ops i) ∧ (∀ d, x.dst = some d → i.dst ≠ some d) := by
  unfold noConf at h
  simp only [Bool.and_eq_true] at h
  obtain ⟨h1, h2⟩ := h
  refine ⟨fun d hd => ?_, fun d hd => ?_, fun d hd => ?_⟩
  · rw [hd] at h1; simpa using h1
  · rw [hd] at h2; simp only [Bool.and_eq_true] at h2; simpa using h2.1
  · rw [hd] at h2; simp only [Bool.and_eq_true] at h2; simpa using h2.2

def apart2 (tx ti : Tg) (x i : Oper) : Bool :=
  (match tx, ti with
    | .avoid ss, .mine => isL x.op && isSt i.op && (match x.op, i.op with | .load _ _, .store _ (.tmp q) _ => ss.contains q | _, _ => false)
    | _, _ => false)
def al2 (tx ti : Tg) (x i : Oper) : Bool :=
  (match tx, ti with
    | .plain, .plain => isAl x.op && isAl i.op && x.guard.isNone && i.guard.isNone && x.dst.isSome && i.dst.isSome
    | _, _ => false)

/-- A map's element is read, and its entry is looked for: the same map, the same key. -/
def lkme (tx ti : Tg) (x i : Oper) : Bool :=
  (match tx, ti with
    | .plain, .plain => x.guard.isNone && i.guard.isNone && x.dst.isSome && i.dst.isSome && (match x.op, i.op with
      | .lookup t (.tmp m) (.tmp k) false, .mapEntry t' (.tmp m') (.tmp k') => t == t' && m == m' && k == k'
      | _, _ => false)
    | _, _ => false)

/-- Whether the later operation may go ahead of the earlier one. -/
def pairOK (ops : List Oper) (tx ti : Tg) (x i : Oper) : Bool :=
  noConf ops x i && ((qS tx x && post ti i) || (qL tx x && (quiet ti i || pSub ti i)) || (qB tx x && (quiet ti i || pSub ti i || pBlk ti i)) ||
    (post tx x && qS ti i) || (quiet tx x && quiet ti i) || (pBlk tx x && qB ti i) || apart2 tx ti x i || al2 tx ti x i || lkme tx ti x i)

section
variable {P : Program} {fid : Nat} {ops : List Oper}

theorem fresh_alloc {h : Hp} {f s s' : Nat} {c : Con} (hne : s ≠ s') : (h.alloc f s c).fresh f s' = h.fresh f s' := by
  simp [Hp.fresh, Hp.alloc, Ne.symm hne]
theorem alloc_comm {h : Hp} {f s s' : Nat} {c c' : Con} (hne : s ≠ s') : (h.alloc f s c).alloc f s' c' = (h.alloc f s' c').alloc f s c := by
  unfold Hp.alloc
  congr 1
  · funext M
    simp only
    by_cases h1 : M = ⟨f, s', h.cnt f s'⟩
    · subst h1
      simp [Ne.symm hne]
    · by_cases h2 : M = ⟨f, s, h.cnt f s⟩
      · subst h2
        simp [hne]
      · simp [h1, h2, hne, Ne.symm hne]
  · funext g t
    simp only
    by_cases h1 : g = f ∧ t = s'
    · obtain ⟨rfl, rfl⟩ := h1
      simp [Ne.symm hne]
    · by_cases h2 : g = f ∧ t = s
      · obtain ⟨rfl, rfl⟩ := h2
        simp [hne]
      · simp [h1, h2]

/-- A new variable: what it holds hangs on the operands alone. -/
def AlF (fid : Nat) (F : St → (St → Prop) → Prop) (d : Nat) (rds : List Nat) : Prop :=
  ∀ st K, F st K → ∃ c, K ((st.withHp (st.hp.alloc fid d c)).put (some d) (.pt (st.hp.fresh fid d) 0 0 0)) ∧
    ∀ (st' : St) (K' : St → Prop), (∀ t ∈ rds, st'.slots t = st.slots t) → K' ((st'.withHp (st'.hp.alloc fid d c)).put (some d) (.pt (st'.hp.fresh fid d) 0 0 0)) → F st' K'

theorem al_form {o : Oper} {d : Nat} (ho : isAl o.op = true) (hd : o.dst = some d) (hg : o.guard = none) : AlF fid (stepT P fid ops .plain o) d (rdG ops o) := by
  intro st K hk
  have hs : ∀ {st K}, stepT P fid ops .plain o st K = opK P fid o st K := by intro st K; simp [stepT, guardG, hg, opT]
  rw [hs] at hk
  unfold opK at hk
  rcases al_op ho with ⟨t, hop⟩ | ⟨t, x, hop⟩ <;> rw [hop] at hk <;> dsimp only at hk <;> rw [hd] at hk
  · refine ⟨_, hk.2, fun st' K' he h' => ?_⟩
    rw [hs]; unfold opK; rw [hop, hd]; exact ⟨hk.1, h'⟩
  · obtain ⟨h1, h2⟩ := hk
    refine ⟨_, h2, fun st' K' he h' => ?_⟩
    rw [hs]; unfold opK; rw [hop, hd]; dsimp only
    have he' : ∀ t ∈ tmpsOf o.op.operands.toList, st'.slots t = st.slots t := fun t ht => he t (List.mem_append_right _ ht)
    rw [ev_same he' (x := x) (by rw [hop]; simp [Op.operands])]; exact ⟨h1, h'⟩

theorem swap_al {F G : St → (St → Prop) → Prop} {dF dG : Nat} {rF rG : List Nat} (hF : AlF fid F dF rF) (hG : AlF fid G dG rG) (h1 : dG ∉ rF) (h2 : dF ∉ rG) (h3 : dF ≠ dG) {st : St} {K : St → Prop} (h : F st (fun s => G s K)) : G st (fun s => F s K) := by
  obtain ⟨c, p1, p2⟩ := hF _ _ h
  obtain ⟨c', q1, q2⟩ := hG _ _ p1
  refine q2 st _ (fun t ht => ?_) (p2 _ _ (fun t ht => ?_) ?_)
  · rw [agree_put (d := some dF) (by rintro x hx; injection hx with hx; subst hx; exact h2) t ht]; rfl
  · rw [agree_put (d := some dG) (by rintro x hx; injection hx with hx; subst hx; exact h1) t ht]; rfl
  · have e : (((st.withHp (st.hp.alloc fid dG c')).put (some dG) (.pt (st.hp.fresh fid dG) 0 0 0)).withHp (((st.withHp (st.hp.alloc fid dG c')).put (some dG) (.pt (st.hp.fresh fid dG) 0 0 0)).hp.alloc fid dF c)).put (some dF)
        (.pt (((st.withHp (st.hp.alloc fid dG c')).put (some dG) (.pt (st.hp.fresh fid dG) 0 0 0)).hp.fresh fid dF) 0 0 0) =
      (((st.withHp (st.hp.alloc fid dF c)).put (some dF) (.pt (st.hp.fresh fid dF) 0 0 0)).withHp (((st.withHp (st.hp.alloc fid dF c)).put (some dF) (.pt (st.hp.fresh fid dF) 0 0 0)).hp.alloc fid dG c')).put (some dG)
        (.pt (((st.withHp (st.hp.alloc fid dF c)).put (some dF) (.pt (st.hp.fresh fid dF) 0 0 0)).hp.fresh fid dG) 0 0 0) := by
      refine St.ext (fun i => ?_) ?_
      · simp only [put_slots, withHp_slots, put_hp, withHp_hp]
        rw [fresh_alloc (Ne.symm h3), fresh_alloc h3]
        by_cases hi : i = dF
        · subst hi; simp [h3]
        · simp [hi]
      · simp only [put_hp, withHp_hp]
        exact alloc_comm (Ne.symm h3)
    rw [e]; exact q1

theorem avoid_quiet {ss : List Nat} {o : Oper} : Quiet (opT P fid (.avoid ss) o) o.dst (rd o) (fun h h' => ∀ L, ¬ (L.f = fid ∧ L.s ∈ ss) → h'.con L = h.con L) := by
  intro st K hk
  obtain ⟨ha, hk⟩ := hk
  unfold avoidO at ha
  cases hop : o.op <;> rw [hop] at ha <;> first | exact ha.elim | skip
  rename_i t x
  simp only at ha
  unfold opK at hk
  rw [hop] at hk
  dsimp only at hk
  obtain ⟨v, h1, h2⟩ := fn_loadK _ hk.2
  refine ⟨v, h1, fun st' K' he hs h' => ?_⟩
  unfold rd at he
  have e1 : st'.ev x = st.ev x := ev_same he (by rw [hop]; simp [Op.operands])
  refine ⟨by unfold avoidO; rw [hop]; simp only; rw [e1]; exact ha, ?_⟩
  unfold opK; rw [hop]; dsimp only
  rw [e1]
  refine ⟨hk.1, ?_⟩
  have := h2 (fun v => K' (st'.put o.dst v)) h'
  unfold loadK at this ⊢
  unfold avoidK at ha
  split at this
  · exact this
  · rename_i L sz i j hx
    rw [hx] at ha
    simp only at ha
    rw [hs L (fun ⟨q1, q2⟩ => ha q1 q2)]; exact this
  · exact this.elim

theorem cellsEq_self : ∀ cs : List AV, cs.all AV.isInt = true → cellsEq cs cs = some true := by
  intro cs
  induction cs with
  | nil => intro _; rfl
  | cons c r ih =>
    intro h
    rw [List.all_cons, Bool.and_eq_true] at h
    cases c <;> simp only [AV.isInt, Bool.false_eq_true, false_and] at h
    simp [cellsEq, ih h.2]
theorem findM_app {cs : List AV} {e : AV × AV × Nat} (he : keyEq cs e.1 = some true) : ∀ (es : List (AV × AV × Nat)) (n : Nat), findM cs es n = some .none → findM cs (es ++ [e]) n = some (some (n + es.length)) := by
  intro es
  induction es with
  | nil => intro n _; simp [findM, he]
  | cons a r ih =>
    intro n h
    simp only [findM, List.cons_append] at h ⊢
    cases hk : keyEq cs a.1 with
    | none => rw [hk] at h; cases h
    | some b =>
      rw [hk] at h
      cases b with
      | true => simp at h
      | false =>
        simp only at h ⊢
        rw [ih (n + 1) h]
        simp; omega
theorem swap_lkme {x i : Oper} {t : TypeId} {m k d d' : Nat} (ox : x.op = .lookup t (.tmp m) (.tmp k) false) (oi : i.op = .mapEntry t (.tmp m) (.tmp k)) (hd : x.dst = some d) (hd' : i.dst = some d') (m1 : d ≠ m ∧ d ≠ k) (m2 : d' ≠ m ∧ d' ≠ k) (hne : d ≠ d')
    {st : St} {K : St → Prop} (hk : opK P fid x st (fun s => opK P fid i s K)) : opK P fid i st (fun s => opK P fid x s K) := by
  unfold opK at hk ⊢
  rw [ox] at hk
  rw [oi]
  dsimp only at hk ⊢
  simp only [opK, ox, oi, hd, hd'] at hk ⊢
  have fin : ∀ (v w : AV) (h' : Hp), (((st.put (some d) v).withHp h').put (some d') w) = (((st.withHp h').put (some d') w).put (some d) v) := by
    intro v w h'
    refine St.ext (fun j => ?_) rfl
    simp only [put_slots, withHp_slots]
    by_cases h1 : j = d'
    · subst h1; simp [Ne.symm hne]
    · simp [h1]
  unfold lookupK at hk
  unfold mapEntryK
  cases hT : tk P t <;> rw [hT] at hk <;> try exact hk.elim
  rename_i kt et
  simp only at hk ⊢
  obtain ⟨ht, hk⟩ := hk
  refine ⟨ht, ?_⟩
  have e1 : ∀ v, (st.put (some d) v).ev (.tmp m) = st.ev (.tmp m) := fun v => by simp [St.ev, St.put, Ne.symm m1.1]
  have e2 : ∀ v, (st.put (some d) v).ev (.tmp k) = st.ev (.tmp k) := fun v => by simp [St.ev, St.put, Ne.symm m1.2]
  have e3 : ∀ h' w, ((st.withHp h').put (some d') w).ev (.tmp m) = st.ev (.tmp m) := fun h' w => by simp [St.ev, St.put, St.withHp, Ne.symm m2.1]
  have e4 : ∀ h' w, ((st.withHp h').put (some d') w).ev (.tmp k) = st.ev (.tmp k) := fun h' w => by simp [St.ev, St.put, St.withHp, Ne.symm m2.2]
  simp only [e1, e2, e3, e4] at hk ⊢
  unfold keyK at hk ⊢
  cases hx : st.ev (.tmp k) <;> rw [hx] at hk <;> try exact hk.elim
  rename_i cs
  simp only at hk ⊢
  obtain ⟨k1, k2, k3, hk⟩ := hk
  refine ⟨k1, k2, k3, ?_⟩
  unfold lookM at hk
  unfold entryM
  cases hm : st.ev (.tmp m) <;> rw [hm] at hk <;> try exact hk.elim
  · -- a nil map
    simp only [mres] at hk
    unfold mapEntryK at hk
    simp only [hT, keyK, hx, entryM] at hk
    exact hk.2.2.2.2.elim
  rename_i L
  simp only at hk ⊢
  unfold lookC at hk
  unfold entryC
  cases hc : st.hp.con L <;> rw [hc] at hk <;> try exact hk.elim
  rename_i es ck
  simp only at hk ⊢
  obtain ⟨r, f1, hk⟩ := hk
  unfold lookR at hk
  cases r with
  | none =>
    simp only [mres, Bool.false_eq_true, if_false] at hk
    unfold mapEntryK at hk
    simp only [hT, keyK, hx, entryM, hm, entryC, put_hp, hc] at hk
    obtain ⟨_, _, _, _, r2, f2, hk⟩ := hk
    rw [f1] at f2
    obtain rfl : r2 = none := by injection f2 with f2; exact f2.symm
    refine ⟨none, f1, ?_⟩
    simp only [entryR] at hk ⊢
    unfold lookupK
    simp only [hT, keyK, hx, lookM, hm, lookC, put_hp, withHp_hp]
    refine ⟨ht, k1, k2, k3, ?_⟩
    have hcon : (st.hp.set L (.mp (es ++ [(.agg cs, tzero P et, ck)]) (ck + 1))).con L = .mp (es ++ [(.agg cs, tzero P et, ck)]) (ck + 1) := by simp [Hp.set, hc, Con.keep]
    rw [hcon]
    refine ⟨some es.length, by have := findM_app (e := (.agg cs, tzero P et, ck)) (by simp only [keyEq]; exact cellsEq_self cs k3) es 0 f1; simpa using this, ?_⟩
    simp only [lookR]
    refine ⟨by simp, ?_⟩
    rw [← fin]
    simpa [mres] using hk
  | some j =>
    simp only at hk
    obtain ⟨hj, hk⟩ := hk
    unfold mapEntryK at hk
    simp only [hT, keyK, hx, entryM, hm, entryC, put_hp, hc] at hk
    obtain ⟨_, _, _, _, r2, f2, hk⟩ := hk
    rw [f1] at f2
    obtain rfl : r2 = some j := by injection f2 with f2; exact f2.symm
    refine ⟨some j, f1, ?_⟩
    simp only [entryR] at hk ⊢
    obtain ⟨_, hk⟩ := hk
    refine ⟨hj, ?_⟩
    unfold lookupK
    simp only [hT, keyK, hx, lookM, hm, lookC, put_hp, withHp_hp, hc]
    refine ⟨ht, k1, k2, k3, some j, f1, ?_⟩
    simp only [lookR]
    refine ⟨hj, ?_⟩
    rw [← fin]
    simpa [mres] using hk

theorem pair_swap {tx ti : Tg} {x i : Oper} (h : pairOK ops tx ti x i = true) {st : St} {K : St → Prop} (hk : stepT P fid ops tx x st (fun s => stepT P fid ops ti i s K)) : stepT P fid ops ti i st (fun s => stepT P fid ops tx x s K) := by
  unfold pairOK at h
  rw [Bool.and_eq_true] at h
  obtain ⟨hc, h⟩ := h
  obtain ⟨c1, c2, c3⟩ := noConf_spec hc
  simp only [Bool.or_eq_true, Bool.and_eq_true] at h
  have qpost : ∀ {tg o}, quiet tg o = true → Post (stepT P fid ops tg o) o.dst (rdG ops o) (fun h h' => h' = h) := fun hq => ((quiet_sound hq).post (fun _ => rfl)).step (fun _ => rfl)
  have anyp : ∀ {tg o}, post tg o = true → Post (stepT P fid ops tg o) o.dst (rdG ops o) (fun _ _ => True) := fun hq => (post_sound hq).step (fun _ => trivial)
  have subp : ∀ {tg o}, pSub tg o = true → Post (stepT P fid ops tg o) o.dst (rdG ops o) Sub := fun hq => (pSub_sound hq).step (fun _ _ _ => rfl)
  have blkp : ∀ {tg o}, pBlk tg o = true → Post (stepT P fid ops tg o) o.dst (rdG ops o) BlkEq := fun hq => (pBlk_sound hq).step (fun _ _ _ => rfl)
  rcases h with ((((((((⟨h1, h2⟩ | ⟨h1, h2⟩) | ⟨h1, h2⟩) | ⟨h1, h2⟩) | ⟨h1, h2⟩) | ⟨h1, h2⟩) | h1) | h1) | h1)
  · exact swap_quiet_post (qS_sound h1).step (anyp h2) (fun _ _ _ => trivial) c1 c2 c3 hk
  · rcases h2 with h2 | h2
    · exact swap_quiet_post (qL_sound h1).step (qpost h2) (fun _ _ e _ _ => by rw [e]) c1 c2 c3 hk
    · exact swap_quiet_post (qL_sound h1).step (subp h2) (fun _ _ e => e) c1 c2 c3 hk
  · rcases h2 with (h2 | h2) | h2
    · exact swap_quiet_post (qB_sound h1).step (qpost h2) (fun _ _ e _ _ => by rw [e]) c1 c2 c3 hk
    · exact swap_quiet_post (qB_sound h1).step (subp h2) (fun _ _ e => BlkUp.of_sub e) c1 c2 c3 hk
    · exact swap_quiet_post (qB_sound h1).step (blkp h2) (fun _ _ e L hL => e L (.inl hL)) c1 c2 c3 hk
  · exact swap_post_quiet (anyp h1) (qS_sound h2).step (fun _ _ _ => trivial) c1 c2 c3 hk
  · exact swap_post_quiet (qpost h1) (quiet_sound h2).step (fun _ _ e => e.symm) c1 c2 c3 hk
  · exact swap_post_quiet (blkp h1) (qB_sound h2).step (fun _ _ e L hL => (e L (.inr hL)).symm) c1 c2 c3 hk
  · unfold apart2 at h1
    cases tx <;> cases ti <;> first | exact absurd h1 Bool.false_ne_true | skip
    rename_i ss
    simp only [Bool.and_eq_true] at h1
    obtain ⟨⟨g1, g2⟩, g3⟩ := h1
    obtain ⟨t, a, y, hop⟩ := st_op g2
    split at g3
    · rename_i q _ _ hop'
      rw [hop] at hop'
      injection hop' with e1 e2 e3
      subst e2
      refine swap_quiet_post avoid_quiet.step ((mine_store hop).step (fun _ _ _ => rfl)) ?_ c1 c2 c3 hk
      intro h h' e L hL
      refine e L (fun ⟨q1, q2⟩ => hL ⟨q1, ?_⟩)
      injection q2 with q2
      subst q2
      simpa using g3
    · exact absurd g3 Bool.false_ne_true
  · unfold al2 at h1
    cases tx <;> cases ti <;> first | exact absurd h1 Bool.false_ne_true | skip
    simp only [Bool.and_eq_true, Option.isNone_iff_eq_none] at h1
    obtain ⟨⟨⟨⟨⟨g1, g2⟩, g3⟩, g4⟩, g5⟩, g6⟩ := h1
    obtain ⟨d, hd⟩ := Option.isSome_iff_exists.1 g5
    obtain ⟨d', hd'⟩ := Option.isSome_iff_exists.1 g6
    exact swap_al (al_form g1 hd g3) (al_form g2 hd' g4) (c1 _ hd') (c2 _ hd) (fun e => c3 _ hd (by rw [hd', e])) hk

  · unfold lkme at h1
    cases tx <;> cases ti <;> first | exact absurd h1 Bool.false_ne_true | skip
    simp only [Bool.and_eq_true, Option.isNone_iff_eq_none] at h1
    obtain ⟨⟨⟨⟨g1, g2⟩, g3⟩, g4⟩, g5⟩ := h1
    obtain ⟨d, hd⟩ := Option.isSome_iff_exists.1 g3
    obtain ⟨d', hd'⟩ := Option.isSome_iff_exists.1 g4
    split at g5
    · rename_i t m k t' m' k' ox oi
      simp only [Bool.and_eq_true, beq_iff_eq] at g5
      obtain ⟨⟨rfl, rfl⟩, rfl⟩ := g5
      have m1 : d ≠ m ∧ d ≠ k := by
        have := c2 d hd
        unfold rdG rd at this
        rw [oi] at this
        constructor <;> (rintro rfl; exact this (List.mem_append_right _ (by simp [Op.operands, tmpsOf])))
      have m2 : d' ≠ m ∧ d' ≠ k := by
        have := c1 d' hd'
        unfold rdG rd at this
        rw [ox] at this
        constructor <;> (rintro rfl; exact this (List.mem_append_right _ (by simp [Op.operands, tmpsOf])))
      have hsx : ∀ {st K}, stepT P fid ops .plain x st K = opK P fid x st K := by intro st K; simp [stepT, guardG, g1, opT]
      have hsi : ∀ {st K}, stepT P fid ops .plain i st K = opK P fid i st K := by intro st K; simp [stepT, guardG, g2, opT]
      rw [hsx] at hk
      simp only [hsi] at hk
      rw [hsi]
      simp only [hsx]
      exact swap_lkme ox oi hd hd' m1 m2 (fun e => c3 _ hd (by rw [hd', e])) hk
    · exact absurd g5 Bool.false_ne_true

/-- The i-th operation. -/
def stepAt (P : Program) (fid : Nat) (ops : List Oper) (tg : Nat → Tg) (i : Nat) (st : St) (K : St → Prop) : Prop :=
  match ops[i]? with
  | none => K st
  | some o => stepT P fid ops (tg i) o st K

theorem runL_cons {tg : Nat → Tg} {i : Nat} {r : List Nat} {st : St} {K : St → Prop} : runL P fid ops tg (i :: r) st K = stepAt P fid ops tg i st (fun s => runL P fid ops tg r s K) := by
  first
    | rfl
    | (simp only [runL, stepAt]; done)
    | (simp only [runL, stepAt]; cases ops[i]? <;> rfl)

def opOK (tg : Tg) (o : Oper) : Bool := post tg o || calls tg o

theorem stepAt_mono {tg : Nat → Tg} (hok : ∀ i o, ops[i]? = some o → opOK (tg i) o = true) {i : Nat} {st : St} {K K' : St → Prop} (h : stepAt P fid ops tg i st K) (hK : ∀ s, K s → K' s) : stepAt P fid ops tg i st K' := by
  unfold stepAt at *
  cases ho : ops[i]? with
  | none => rw [ho] at h; exact hK _ h
  | some o => rw [ho] at h; exact step_mono (hok i o ho) h hK

theorem bubble {tg : Nat → Tg} (hok : ∀ i o, ops[i]? = some o → opOK (tg i) o = true) {i : Nat} {l2 : List Nat} {K : St → Prop} : ∀ (l1 : List Nat) (st : St), (∀ x ∈ l1, ∀ (st : St) (K : St → Prop), stepAt P fid ops tg x st (fun s => stepAt P fid ops tg i s K) → stepAt P fid ops tg i st (fun s => stepAt P fid ops tg x s K)) →
    runL P fid ops tg (l1 ++ i :: l2) st K → stepAt P fid ops tg i st (fun s => runL P fid ops tg (l1 ++ l2) s K) := by
  intro l1
  induction l1 with
  | nil => intro st _ h; rw [List.nil_append, runL_cons] at h; exact h
  | cons x l1 ih =>
    intro st hs h
    rw [List.cons_append, runL_cons] at h
    have h1 := stepAt_mono hok h (fun s hs' => ih s (fun y hy => hs y (by simp [hy])) hs')
    have h2 := hs x (by simp) _ _ h1
    exact stepAt_mono hok h2 (fun s hs' => by rw [List.cons_append, runL_cons]; exact hs')

end

/-- The edges that bind whatever order is drawn. -/
def hard (o : Oper) : List Nat := (o.after.toList.filter (fun e => Region.binds .any e)).map (·.on)

/-- Behind which operations each one stands, through others too: aas the bits of a number. -/
def maskOf (acc : List Nat) (ps : List Nat) : Nat := ps.foldl (fun m p => m ||| (1 <<< p) ||| acc.getD p 0) 0
def masks : List Oper → List Nat → List Nat
  | [], acc => acc
  | o :: r, acc => masks r (acc ++ [maskOf acc (hard o)])

theorem maskOf_bit {acc ps : List Nat} {x : Nat} (h : (maskOf acc ps).testBit x = true) : ∃ p ∈ ps, x = p ∨ (acc.getD p 0).testBit x = true := by
  unfold maskOf at h
  have gen : ∀ (ps : List Nat) (m : Nat), (ps.foldl (fun m p => m ||| (1 <<< p) ||| acc.getD p 0) m).testBit x = true → m.testBit x = true ∨ ∃ p ∈ ps, x = p ∨ (acc.getD p 0).testBit x = true := by
    intro ps
    induction ps with
    | nil => intro m h; exact .inl h
    | cons p ps ih =>
      intro m h
      rcases ih _ h with h | ⟨q, hq, h⟩
      · simp only [Nat.testBit_or, Bool.or_eq_true] at h
        rcases h with (h | h) | h
        · exact .inl h
        · refine .inr ⟨p, by simp, .inl ?_⟩
          rw [Nat.one_shiftLeft, Nat.testBit_two_pow] at h
          simpa using (of_decide_eq_true h).symm
        · exact .inr ⟨p, by simp, .inr h⟩
      · exact .inr ⟨q, by simp [hq], h⟩
  rcases gen ps 0 h with h | h
  · simp at h
  · exact h

/-- Operations behind which the i-th stands are done once the i-th may come up. -/
theorem masks_spec : ∀ (ops pre : List Oper) (acc : List Nat), acc.length = pre.length → (∀ i o, pre[i]? = some o → ∀ x, (acc.getD i 0).testBit x = true → ∃ p ∈ hard o, x = p ∨ (acc.getD p 0).testBit x = true) →
    (∀ i o, (pre ++ ops)[i]? = some o → ∀ p ∈ hard o, p < i) →
    ∀ i o, (pre ++ ops)[i]? = some o → ∀ x, ((masks ops acc).getD i 0).testBit x = true → ∃ p ∈ hard o, x = p ∨ ((masks ops acc).getD p 0).testBit x = true := by
  intro ops
  induction ops with
  | nil => intro pre acc hl hI _ i o ho x hx; simp only [masks, List.append_nil] at *; exact hI i o ho x hx
  | cons o ops ih =>
    intro pre acc hl hI hp
    have hp' : ∀ i o', (pre ++ [o] ++ ops)[i]? = some o' → ∀ p ∈ hard o', p < i := by simpa using hp
    have := ih (pre ++ [o]) (acc ++ [maskOf acc (hard o)]) (by simp [hl]) ?_ hp'
    · simpa [masks] using this
    · intro i o' ho' x hx
      have get : ∀ p, p < pre.length → (acc ++ [maskOf acc (hard o)]).getD p 0 = acc.getD p 0 := by
        intro p hp
        simp only [List.getD_eq_getElem?_getD]
        rw [List.getElem?_append_left (by omega)]
      rcases Nat.lt_trichotomy i pre.length with hi | hi | hi
      · rw [List.getElem?_append_left (by omega)] at ho'
        rw [get i hi] at hx
        obtain ⟨p, h1, h2⟩ := hI i o' ho' x hx
        have hpi := hp i o' (by rw [List.getElem?_append_left (by omega)]; exact ho') p h1
        exact ⟨p, h1, by rw [get p (by omega)]; exact h2⟩
      · subst hi
        have ho'' : o' = o := by simpa using ho'.symm
        subst ho''
        have hx' : (acc ++ [maskOf acc (hard o')]).getD pre.length 0 = maskOf acc (hard o') := by
          rw [← hl]; simp
        rw [hx'] at hx
        obtain ⟨p, h1, h2⟩ := maskOf_bit hx
        have hpi := hp pre.length o' (by simp) p h1
        exact ⟨p, h1, by rw [get p hpi]; exact h2⟩
      · rw [List.getElem?_eq_none (by simp; omega)] at ho'; cases ho'

/-- What is asked of a region whose order is drawn. -/
def pairsOK (ops : List Oper) (tg : List Tg) (ms : List Nat) : Bool :=
  (List.range ops.length).all fun i => (List.range i).all fun x =>
    (ms.getD i 0).testBit x || (match ops[x]?, ops[i]? with
      | some ox, some oi => pairOK ops (tagAt tg x) (tagAt tg i) ox oi
      | _, _ => true)
def drawOK (ops : List Oper) (tg : List Tg) : Bool :=
  ((List.range ops.length).all fun i => match ops[i]? with
    | some o => opOK (tagAt tg i) o && (hard o).all (fun p => decide (p < i))
    | none => true) && pairsOK ops tg (masks ops [])

end Go.T
/- Regions whose order is drawn, third part: the machine's side. -/
namespace Go.T
open Go

section
variable {P : Program} {w0 : World} {B0 : Nat → Prop} {e0 : Env} {h0 : Hp} {n : Nat} {ds : List Deferred}

theorem getD_mem {listed : Array Bool} {j : Nat} (hj : j < listed.size) : listed.getD j true = listed.getD j false := by
  simp [hj]

theorem closed_masks {ops : List Oper} {ρ : List Nat} (hp : ∀ i o, ops[i]? = some o → ∀ p ∈ hard o, p < i) (hc : ∀ j o, ops[j]? = some o → j ∉ ρ → ∀ p ∈ hard o, p ∉ ρ) :
    ∀ i o, ops[i]? = some o → (∀ p ∈ hard o, p ∉ ρ) → ∀ x, ((masks ops []).getD i 0).testBit x = true → x ∉ ρ := by
  intro i
  induction i using Nat.strongRecOn with
  | _ i ih =>
    intro o ho hpre x hx
    obtain ⟨p, h1, h2⟩ := masks_spec ops [] [] rfl (fun i o h => by simp at h) (by simpa using hp) i o (by simpa using ho) x hx
    rcases h2 with rfl | h2
    · exact hpre _ h1
    · have hpi := hp i o ho p h1
      have hlt : p < ops.length := by
        have : i < ops.length := by
          rcases Nat.lt_or_ge i ops.length with h | h
          · exact h
          · rw [List.getElem?_eq_none h] at ho; cases ho
        omega
      exact ih p hpi ops[p] (List.getElem?_eq_getElem hlt) (hc p _ (List.getElem?_eq_getElem hlt) (hpre p h1)) x h2

theorem draw_any {fid : Nat} (ops : Array Oper) (hd : ∀ o ∈ ops.toList, ∀ x, o.dst = some x → x < n) (tgl : List Tg) (hok : drawOK ops.toList tgl = true) (r : Option Nat) (m : Nat) {Q : Ex → St → Prop} :
    ∀ (fuel : Nat) (ρ : List Nat) (listed : Array Bool) (st : St) (a : Act) (w : World) (B : Nat → Prop) (e : Env), listed.size = ops.size → ρ.length = fuel → ρ.Pairwise (· < ·) →
    (∀ j, j ∈ ρ ↔ (j < ops.size ∧ listed.getD j true = false)) → (∀ j o, ops.toList[j]? = some o → j ∉ ρ → ∀ p ∈ hard o, p ∉ ρ) →
    Rel w B e n st a → Ext w0 B0 e0 h0 w B e st.hp → a.defers = ds → runL P fid ops.toList (tagAt tgl) ρ st (Q .normal) →
    wpAnyIn (wr r) m P .any ops (Qm w0 B0 e0 h0 n ds Q) fuel listed a w := by
  unfold drawOK at hok
  rw [Bool.and_eq_true] at hok
  obtain ⟨hok1, hok2⟩ := hok
  have each : ∀ i o, ops.toList[i]? = some o → opOK (tagAt tgl i) o = true ∧ ∀ p ∈ hard o, p < i := by
    intro i o ho
    have hi : i < ops.toList.length := by
      rcases Nat.lt_or_ge i ops.toList.length with h | h
      · exact h
      · rw [List.getElem?_eq_none h] at ho; cases ho
    have := List.all_eq_true.1 hok1 i (List.mem_range.2 hi)
    rw [ho] at this
    simp only [Bool.and_eq_true] at this
    exact ⟨this.1, fun p hp => by have := List.all_eq_true.1 this.2 p hp; simpa using this⟩
  have pair : ∀ i x, i < ops.toList.length → x < i → ((masks ops.toList []).getD i 0).testBit x = false → ∀ ox oi, ops.toList[x]? = some ox → ops.toList[i]? = some oi → pairOK ops.toList (tagAt tgl x) (tagAt tgl i) ox oi = true := by
    intro i x hi hx hb ox oi hox hoi
    unfold pairsOK at hok2
    have h1 := List.all_eq_true.1 hok2 i (List.mem_range.2 hi)
    have h2 := List.all_eq_true.1 h1 x (List.mem_range.2 hx)
    rw [hb, hox, hoi] at h2
    simpa using h2
  intro fuel
  induction fuel with
  | zero =>
    intro ρ listed st a w B e hsz hlen hsort hmem hcl hr hx hds h
    have hnil : ρ = [] := List.length_eq_zero_iff.1 hlen
    subst hnil
    refine ⟨?_, .normal, rfl, st, B, e, h, hr, hx, hds⟩
    rw [List.eq_nil_iff_forall_not_mem]
    intro j hj
    obtain ⟨h1, o, ho, _⟩ := mem_ready.1 hj
    have hjs : j < ops.size := by
      rcases Nat.lt_or_ge j ops.size with h | h
      · exact h
      · rw [Array.getElem?_eq_none h] at ho; cases ho
    have := (hmem j).2 ⟨hjs, h1⟩
    simp at this
  | succ fuel ih =>
    intro ρ listed st a w B e hsz hlen hsort hmem hcl hr hx hds h
    have hmask := closed_masks (ρ := ρ) (fun i o ho => (each i o ho).2) hcl
    refine ⟨fun hnil => ?_, fun i hi => ?_⟩
    · exfalso
      cases hρ : ρ with
      | nil => rw [hρ] at hlen; simp at hlen
      | cons j ρ' =>
        have hj : j ∈ ρ := by rw [hρ]; simp
        obtain ⟨hjs, hjl⟩ := (hmem j).1 hj
        have hready : j ∈ Region.ready .any ops listed := by
          refine mem_ready.2 ⟨hjl, ops[j], Array.getElem?_eq_getElem hjs, fun ed hed hb => ?_⟩
          have hhard : ed.on ∈ hard ops[j] := List.mem_map.2 ⟨ed, List.mem_filter.2 ⟨by simpa using hed, hb⟩, rfl⟩
          have hlt := (each j ops[j] (by simp [hjs])).2 _ hhard
          have hn : ed.on ∉ ρ := by
            intro hin
            rw [hρ] at hin hsort
            rcases List.mem_cons.1 hin with h | h
            · omega
            · have := (List.pairwise_cons.1 hsort).1 _ h
              omega
          have hs : ed.on < ops.size := by omega
          have := mt (hmem ed.on).2 hn
          have hne : listed.getD ed.on true ≠ false := fun he => this ⟨hs, he⟩
          rw [getD_mem (by omega)] at hne
          cases hv : listed.getD ed.on false with
          | true => rfl
          | false => exact absurd hv hne
        rw [hnil] at hready
        simp at hready
    · obtain ⟨hil, o, ho, hpre⟩ := mem_ready.1 hi
      have his : i < ops.size := by
        rcases Nat.lt_or_ge i ops.size with h | h
        · exact h
        · rw [Array.getElem?_eq_none h] at ho; cases ho
      have hio : ops.toList[i]? = some o := by simpa using ho
      have hin : i ∈ ρ := (hmem i).2 ⟨his, hil⟩
      obtain ⟨l1, l2, hsplit⟩ := List.append_of_mem hin
      have hpre' : ∀ p ∈ hard o, p ∉ ρ := by
        intro p hp hpin
        obtain ⟨ed, hed, rfl⟩ := List.mem_map.1 hp
        obtain ⟨h1, h2⟩ := List.mem_filter.1 hed
        have h3 := hpre ed (by simpa using h1) h2
        obtain ⟨h4, h5⟩ := (hmem _).1 hpin
        rw [getD_mem (by omega), h3] at h5
        cases h5
      have hs1 : ∀ x ∈ l1, x < i := by
        rw [hsplit, List.pairwise_append] at hsort
        exact fun x hx => hsort.2.2 x hx i (by simp)
      have hs2 : ∀ x ∈ l2, i < x := by
        rw [hsplit, List.pairwise_append] at hsort
        exact fun x hx => (List.pairwise_cons.1 hsort.2.1).1 x hx
      have hsort' : (l1 ++ l2).Pairwise (· < ·) := by
        rw [hsplit, List.pairwise_append] at hsort
        rw [List.pairwise_append]
        exact ⟨hsort.1, (List.pairwise_cons.1 hsort.2.1).2, fun x hx y hy => hsort.2.2 x hx y (by simp [hy])⟩
      rw [hsplit] at h
      have hb := bubble (fun i o ho => (each i o ho).1) l1 st (fun x hxl st K hk => ?_) h
      · unfold stepAt at hb
        rw [hio] at hb
        unfold wpOpIn
        simp only [ho]
        refine step_wp ops hd r m ho hr hx hds hb ?_
        rintro a' w' ⟨st', B', e', g1, g2, g3, g4⟩
        refine ih (l1 ++ l2) (listed.setIfInBounds i true) st' a' w' B' e' (by simp [hsz]) (by rw [hsplit] at hlen; simp at hlen ⊢; omega) hsort' (fun j => ?_) (fun j oj hoj hj p hp => ?_) g2 g3 g4 g1
        · have e1 : j ∈ l1 ++ l2 ↔ j ∈ ρ ∧ j ≠ i := by
            rw [hsplit]
            simp only [List.mem_append, List.mem_cons]
            constructor
            · rintro (h | h)
              · exact ⟨.inl h, by have := hs1 j h; omega⟩
              · exact ⟨.inr (.inr h), by have := hs2 j h; omega⟩
            · rintro ⟨h | h | h, hne⟩
              · exact .inl h
              · exact absurd h hne
              · exact .inr h
          rw [e1, hmem j]
          by_cases hji : j = i
          · subst hji
            simp [hsz, his]
          · rw [getD_set_ne true (Ne.symm hji)]
            simp [hji]
        · have hpρ : p ∉ ρ := by
            by_cases hji : j = i
            · subst hji
              rw [hio] at hoj
              injection hoj with hoj
              subst hoj
              exact hpre' p hp
            · refine hcl j oj hoj (fun hjρ => hj ?_) p hp
              rw [hsplit] at hjρ
              simp only [List.mem_append, List.mem_cons] at hjρ ⊢
              rcases hjρ with h | h | h
              · exact .inl h
              · exact absurd h hji
              · exact .inr h
          intro hin'
          apply hpρ
          rw [hsplit]
          simp only [List.mem_append, List.mem_cons] at hin' ⊢
          rcases hin' with h | h
          · exact .inl h
          · exact .inr (.inr h)
      · have hxi := hs1 x hxl
        have hxs : x < ops.toList.length := by simp; omega
        have hbit : ((masks ops.toList []).getD i 0).testBit x = false := by
          cases hv : ((masks ops.toList []).getD i 0).testBit x with
          | false => rfl
          | true => exact absurd (by rw [hsplit]; simp [hxl]) (hmask i o hio hpre' x hv)
        have hox : ops.toList[x]? = some ops.toList[x] := List.getElem?_eq_getElem hxs
        have hp := pair i x (by simpa using his) hxi hbit _ _ hox hio
        unfold stepAt at hk ⊢
        rw [hox, hio] at hk
        rw [hio]
        have hk' : stepT P fid ops.toList (tagAt tgl x) ops.toList[x] st (fun s => stepT P fid ops.toList (tagAt tgl i) o s K) := hk
        have := pair_swap hp hk'
        simpa [hox] using this

theorem Rel.draw {w : World} {B : Nat → Prop} {e : Env} {st : St} {a : Act} (hr : Rel w B e n st a) : Rel { w with drawn := w.drawn + 1 } B e n st a := by
  have hm : ∀ {a v}, R w B (e.E st.hp) a v → R { w with drawn := w.drawn + 1 } B (e.E st.hp) a v := fun h => h.mono (fun _ _ => rfl) (fun _ h => h) (fun _ _ h => h)
  refine ⟨⟨fun L hk => ?_, hr.hp.inj, hr.hp.bnd⟩, fun i => hm (hr.slots i), hr.size⟩
  have hc := hr.hp.con L hk
  cases hcon : st.hp.con L with
  | none => trivial
  | blk cs =>
    rw [hcon] at hc
    obtain ⟨h1, h2, vs, T, h3, h4, h5⟩ := hc
    exact ⟨h1, h2, vs, T, h3, h4, fun j hj => hm (h5 j hj)⟩
  | arr sz xs =>
    rw [hcon] at hc
    obtain ⟨a', cap, h1, h2, h3, h4⟩ := hc
    refine ⟨a', cap, h1, h2, h3, ?_⟩
    rcases h4 with h4 | ⟨h5, h6, h7, vs, T, h8, h9, h10⟩
    · exact .inl h4
    · exact .inr ⟨h5, h6, h7, vs, T, h8, h9, fun i j hi hj => ⟨hm (h10 i j hi hj).1, (h10 i j hi hj).2⟩⟩
  | mp es ck =>
    rw [hcon] at hc
    obtain ⟨h1, ents, h3, h4, h5⟩ := hc
    exact ⟨h1, ents, h3, h4, fun j hj => ⟨hm (h5 j hj).1, hm (h5 j hj).2.1, (h5 j hj).2.2⟩⟩
  | lp sl m ps asg bd s =>
    rw [hcon] at hc
    obtain ⟨h1, r, h3, h4, h5, h6, h7, h8, h9⟩ := hc
    exact ⟨h1, r, h3, h4, h5, h6, h7, fun i => hm (h8 i), h9⟩

theorem Ext.draw {w : World} {B : Nat → Prop} {e : Env} {h : Hp} (x : Ext w0 B0 e0 h0 w B e h) : Ext w0 B0 e0 h0 { w with drawn := w.drawn + 1 } B e h :=
  ⟨x.size, x.os, x.tape, x.output, x.bsub, x.bnew, x.keep, x.onew, x.cnt, x.env, x.live⟩

/-- **A region whose order is drawn.** -/
theorem region_draw {fid : Nat} (hm : P.follows .mixedOrders = true) (id : Nat) (ops : Array Oper) (hd : ∀ o ∈ ops.toList, ∀ x, o.dst = some x → x < n) (tgl : List Tg) (hok : drawOK ops.toList tgl = true) (r : Option Nat) (m : Nat) {Q : Ex → St → Prop}
    {st : St} {a : Act} {w : World} {B : Nat → Prop} {e : Env} (hr : Rel w B e n st a) (hx : Ext w0 B0 e0 h0 w B e st.hp) (hds : a.defers = ds) (h : runL P fid ops.toList (tagAt tgl) (List.range ops.size) st (Q .normal)) :
    (Code.region id ops true).wpIn (wr r) m P (Qm w0 B0 e0 h0 n ds Q) a w := by
  refine wpIn_region_any hm ?_
  refine draw_any ops hd tgl hok r m ops.size (List.range ops.size) _ st a _ B e (by simp) (by simp) List.pairwise_lt_range (fun j => ?_) (fun j o ho hj => ?_) hr.draw hx.draw hds h
  · simp only [List.mem_range]
    constructor
    · intro hj; exact ⟨hj, by simp [hj]⟩
    · exact fun h => h.1
  · exfalso
    apply hj
    rw [List.mem_range]
    rcases Nat.lt_or_ge j ops.size with h | h
    · exact h
    · rw [List.getElem?_eq_none (by simpa using h)] at ho; cases ho

end

end Go.T
/- Soundness: blocks that no label owns; a range's record is let go and taken up again. -/
namespace Go.T
open Go

/-- What a label that holds c owns a block for. -/
def Env.own (e : Env) (L : Lab) : Con → Prop
  | .none => False
  | .arr _ _ => ∃ a n c, e.η L = .slice a n c ∧ c ≠ 0
  | _ => True
theorem own_has {e : Env} {h : Hp} {L : Lab} (hk : L.k < h.cnt L.f L.s) (ho : e.own L (h.con L)) : e.has h L := by
  refine ⟨hk, ?_⟩
  unfold Env.own at ho
  cases hc : h.con L <;> rw [hc] at ho <;> simp_all

theorem ConRel.move {w w' : World} {B B' : Nat → Prop} {e e' : Env} {h h' : Hp} {L : Lab} {c : Con} (hR : ∀ a v, R w B (e.E h) a v → R w' B' (e'.E h') a v) (hβ : e'.β L = e.β L) (hη : e'.η L = e.η L)
    (hb : e.own L c → w'.heap[(e.β L).block]? = w.heap[(e.β L).block]?) (hB : e.own L c → ¬ B (e.β L).block → ¬ B' (e.β L).block) (hc : ConRel w B e h L c) : ConRel w' B' e' h' L c := by
  cases c with
  | none => trivial
  | blk cs =>
    obtain ⟨h1, h2, vs, T, h3, h4, h5⟩ := hc
    exact ⟨by rw [hβ]; exact hB trivial h1, by rw [hβ]; exact h2, vs, T, by rw [hβ, hb trivial]; exact h3, h4, fun j hj => hR _ _ (h5 j hj)⟩
  | arr sz xs =>
    obtain ⟨a, cap, h1, h2, h3, h4⟩ := hc
    refine ⟨a, cap, by rw [hη]; exact h1, h2, h3, ?_⟩
    by_cases h0 : cap = 0
    · exact .inl h0
    have ho : e.own L (.arr sz xs) := ⟨_, _, _, h1, h0⟩
    rcases h4 with h4 | ⟨h5, h6, h7, vs, T, h8, h9, h10⟩
    · exact .inl h4
    · refine .inr ⟨by rw [hβ]; exact h5, by rw [hβ]; exact h6, by rw [hβ]; exact hB ho h7, vs, T, by rw [hβ, hb ho]; exact h8, by rw [hβ]; exact h9, fun i j hi hj => ?_⟩
      rw [hβ]
      exact ⟨hR _ _ (h10 i j hi hj).1, (h10 i j hi hj).2⟩
  | mp es ck =>
    obtain ⟨h1, ents, h3, h4, h5⟩ := hc
    exact ⟨by rw [hβ]; exact hB trivial h1, ents, by rw [hβ, hb trivial]; exact h3, h4, fun j hj => ⟨hR _ _ (h5 j hj).1, hR _ _ (h5 j hj).2.1, (h5 j hj).2.2⟩⟩
  | lp sl n ps asg bd st =>
    obtain ⟨h1, r, h3, h4, h5, h6, h7, h8, h9⟩ := hc
    exact ⟨by rw [hβ]; exact hB trivial h1, r, by rw [hβ, hb trivial]; exact h3, h4, h5, h6, h7, fun i => hR _ _ (h8 i), h9⟩

/-- What no label owns may turn. -/
theorem HRel.free {w w' : World} {B : Nat → Prop} {e : Env} {h : Hp} (hh : HRel w B e h) (hs : w.heap.size ≤ w'.heap.size) (hw : ∀ b, (B b ∨ ∃ L, e.has h L ∧ (e.β L).block = b) → w'.heap[b]? = w.heap[b]?) : HRel w' B e h := by
  refine ⟨fun L hk => ?_, hh.inj, fun b hb => Nat.lt_of_lt_of_le (hh.bnd b hb) hs⟩
  exact ConRel.move (fun a v hR => hR.mono (fun b hb => hw b (.inl hb)) (fun _ h => h) (fun _ _ h => h)) rfl rfl (fun ho => hw _ (.inr ⟨L, own_has hk ho, rfl⟩)) (fun _ h => h) (hh.con L hk)

theorem Ext.push {w : World} {B : Nat → Prop} {e : Env} {h : Hp} (o : Obj) : Ext w B e h (w.alloc o) B e h where
  size := by simp
  os := rfl
  tape := rfl
  output := rfl
  bsub _ h := h
  bnew _ h := .inl h
  keep b hb _ := by
    show (w.heap.push o)[b]? = _
    rw [Array.getElem?_push, if_neg (by omega)]
  onew L hL := .inl ⟨L, hL, rfl⟩
  cnt _ _ := Nat.le_refl _
  env _ _ := ⟨rfl, rfl⟩
  live _ _ h := h
theorem HRel.push {w : World} {B : Nat → Prop} {e : Env} {h : Hp} (hh : HRel w B e h) (o : Obj) : HRel (w.alloc o) B e h := by
  refine hh.free (by simp) (fun b hb => ?_)
  have hlt : b < w.heap.size := by
    rcases hb with hb | ⟨L, hL, rfl⟩
    · exact hh.bnd b hb
    · exact (hh.lt hL).1
  show (w.heap.push o)[b]? = _
  rw [Array.getElem?_push, if_neg (by omega)]

theorem set_none_at {h : Hp} {L : Lab} (M : Lab) : (h.set L .none).con M = if M = L then .none else h.con M := by
  simp only [Hp.set]
  split
  · cases h.con L <;> rfl
  · rfl
theorem dropc {h : Hp} {L : Lab} (M : Lab) : (h.set L .none).con M = .none ∨ (h.set L .none).con M = h.con M := by
  rw [set_none_at]
  by_cases hE : M = L
  · rw [if_pos hE]; exact .inl rfl
  · rw [if_neg hE]; exact .inr rfl
theorem has_drop {e : Env} {h : Hp} {L M : Lab} (hM : e.has (h.set L .none) M) : M ≠ L ∧ e.has h M := by
  obtain ⟨hk, hm⟩ := hM
  have hne : M ≠ L := fun hE => by
    rw [set_none_at, if_pos hE] at hm; exact hm
  refine ⟨hne, hk, ?_⟩
  rw [set_none_at, if_neg hne] at hm
  exact hm

/-- A label is let go, and its block turned. -/
theorem putDrop {w : World} {B : Nat → Prop} {e : Env} {h : Hp} (hh : HRel w B e h) {L : Lab} (hL : e.has h L) (o : Obj) :
    HRel (w.putObj (e.β L).block o) B e (h.set L .none) ∧ Ext w B e h (w.putObj (e.β L).block o) B e (h.set L .none) := by
  have hd := HRel.drop hh (fun M => dropc M) (rfl : (h.set L .none).cnt = h.cnt)
  have hne : ∀ b, (B b ∨ ∃ M, e.has (h.set L .none) M ∧ (e.β M).block = b) → b ≠ (e.β L).block := by
    rintro b (hb | ⟨M, hM, rfl⟩) hE
    · exact (hh.lt hL).2 (hE ▸ hb)
    · obtain ⟨h1, h2⟩ := has_drop hM
      exact h1 (hh.inj M L h2 hL hE)
  refine ⟨hd.free (by simp) (fun b hb => World.putObj_heap_other (hne b hb)), ?_⟩
  exact
    { size := by simp
      os := rfl
      tape := rfl
      output := rfl
      bsub := fun _ h => h
      bnew := fun _ h => .inl h
      keep := fun b _ ho => World.putObj_heap_other (fun hE => ho L hL hE.symm)
      onew := fun M hM => .inl ⟨M, (has_drop hM).2, rfl⟩
      cnt := fun _ _ => Nat.le_refl _
      env := fun _ _ => ⟨rfl, rfl⟩
      live := fun M _ hl => by
        rcases dropc (h := h) (L := L) M with h1 | h1
        · rw [h1] at hl; exact hl.elim
        · rwa [h1] at hl }

/-- A label is taken up again. -/
def Hp.back (h : Hp) (L : Lab) (c : Con) : Hp := if hk : L.k < h.cnt L.f L.s then
    ⟨fun M => if M = L then c else h.con M, h.cnt, fun M hM => by
      by_cases hE : M = L
      · subst hE; omega
      · rw [if_neg hE]; exact h.ok M hM⟩
  else h
theorem back_con {h : Hp} {L : Lab} {c : Con} (hk : L.k < h.cnt L.f L.s) (M : Lab) : (h.back L c).con M = if M = L then c else h.con M := by
  unfold Hp.back; rw [dif_pos hk]
theorem back_cnt {h : Hp} {L : Lab} {c : Con} : (h.back L c).cnt = h.cnt := by
  unfold Hp.back; split <;> rfl

/-- Marks among the deferred calls: each of a block that no label owns, in which nothing lies. -/
def DefOK (N : Nat) (w : World) (B : Nat → Prop) (e : Env) (h : Hp) (ds : List Deferred) : Prop :=
  ∃ Ds : List Nat, ds = Ds.map (fun D => { target := .collected D, args := #[] }) ∧ Ds.Nodup ∧ ∀ D ∈ Ds, N ≤ D ∧ ¬ B D ∧ D < w.heap.size ∧ w.heap[D]? = some (.deferred (some [])) ∧ ∀ L, e.has h L → (e.β L).block ≠ D
theorem DefOK.nil (N : Nat) (w : World) (B : Nat → Prop) (e : Env) (h : Hp) : DefOK N w B e h [] := ⟨[], rfl, List.nodup_nil, fun D hD => by simp at hD⟩
theorem notB_ext {w w' : World} {B B' : Nat → Prop} {e e' : Env} {h h' : Hp} (x : Ext w B e h w' B' e' h') {D : Nat} (g1 : D < w.heap.size) (g3 : ∀ L, e.has h L → (e.β L).block ≠ D) (g2 : ¬ B D) : ¬ B' D := by
  intro hb
  rcases x.bnew D hb with h1 | ⟨L, h1, h2⟩ | h1
  · exact g2 h1
  · exact g3 L h1 h2
  · omega
theorem DefOK.ext {w w' : World} {B B' : Nat → Prop} {e e' : Env} {h h' : Hp} {N : Nat} {ds : List Deferred} (x : Ext w B e h w' B' e' h') (d : DefOK N w B e h ds) : DefOK N w' B' e' h' ds := by
  obtain ⟨Ds, h1, h2, h3⟩ := d
  refine ⟨Ds, h1, h2, fun D hD => ?_⟩
  obtain ⟨g0, gb, g1, g2, g3⟩ := h3 D hD
  refine ⟨g0, notB_ext x g1 g3 gb, Nat.lt_of_lt_of_le g1 x.size, by rw [x.keep D g1 g3]; exact g2, fun L hL hE => ?_⟩
  rcases x.onew L hL with ⟨M, k1, k2⟩ | k1
  · exact g3 M k1 (k2.trans hE)
  · omega
theorem unowned_ext {w w' : World} {B B' : Nat → Prop} {e e' : Env} {h h' : Hp} (x : Ext w B e h w' B' e' h') {D : Nat} (g1 : D < w.heap.size) (g3 : ∀ L, e.has h L → (e.β L).block ≠ D) : D < w'.heap.size ∧ w'.heap[D]? = w.heap[D]? ∧ ∀ L, e'.has h' L → (e'.β L).block ≠ D := by
  refine ⟨Nat.lt_of_lt_of_le g1 x.size, x.keep D g1 g3, fun L hL hE => ?_⟩
  rcases x.onew L hL with ⟨M, k1, k2⟩ | k1
  · exact g3 M k1 (k2.trans hE)
  · omega
end Go.T
/- Soundness, seventeenth part: code; functions. -/
namespace Go.T
open Go

/-- What is asked of a region: guards stand ahead; slots are there; where the order is drawn, whatever order comes to the same (drawOK). -/
def guardsOK : Nat → List Oper → Bool
  | _, [] => true
  | k, o :: r => (match o.guard with | some (j, _) => decide (j < k) | none => true) && guardsOK (k + 1) r
def dstsOK (n : Nat) (ops : List Oper) : Bool := ops.all fun o => match o.dst with | some d => decide (d < n) | none => true
def okCode (n : Nat) (T : Nat → List Tg) : Code → Bool
  | .region id ops dr => guardsOK 0 ops.toList && dstsOK n ops.toList && (!dr || drawOK ops.toList (T id))
  | .seq a b => okCode n T a && okCode n T b
  | .cond _ a b => okCode n T a && okCode n T b
  | .block _ c => okCode n T c
  | .loop c => okCode n T c
  | .scope c => okCode n T c
  | .rangeFunc _ ps a c => ps.toList.all (fun t => decide (t < n)) && okCode n T a && okCode n T c
  | _ => true

theorem guardsOK_mem : ∀ (ops : List Oper) (k : Nat), guardsOK k ops = true → ∀ i o j b, ops[i]? = some o → o.guard = some (j, b) → j < k + i := by
  intro ops
  induction ops with
  | nil => intro k _ i o j b h; simp at h
  | cons o ops ih =>
    intro k hk i o' j b h1 h2
    simp only [guardsOK, Bool.and_eq_true] at hk
    cases i with
    | zero =>
      simp only [List.getElem?_cons_zero, Option.some.injEq] at h1
      subst h1
      rw [h2] at hk
      simpa using hk.1
    | succ i =>
      have := ih (k + 1) hk.2 i o' j b (by simpa using h1) h2
      omega

theorem dstsOK_mem {n : Nat} {ops : List Oper} (h : dstsOK n ops = true) : ∀ o ∈ ops, ∀ x, o.dst = some x → x < n := by
  intro o ho x hx
  have := List.all_eq_true.1 h o ho
  rw [hx] at this
  simpa using this

section
variable {P : Program} {w0 : World} {B0 : Nat → Prop} {e0 : Env} {h0 : Hp} {n : Nat} {ds : List Deferred}

theorem stepR_scope {b : Frame} {a : Act} {k : List Item} {cs : List Frame} {w : World} {c : Code} : step P (lone (b.atR a (.code (.scope c) :: k)) cs w) = .next (lone (b.atR a (.code c :: .inScope c :: k)) cs w) :=
  step_lone_go (by simp [stepG, stepG.exec, Frame.atR])
theorem stepR_inScope {b : Frame} {a : Act} {k : List Item} {cs : List Frame} {w : World} {c : Code} : step P (lone (b.atR a (.inScope c :: k)) cs w) = .next (lone (b.atR a k) cs w) :=
  step_lone_go (by simp [stepG, stepG.exec, Frame.atR])
theorem wpIn_scope_straight {F : Fence} {m : Nat} {c : Code} {a : Act} {w : World} {Q : Exit → Act → World → Prop} (hq0 : ∀ l a w, ¬ Q (.goto l) a w) (h : c.wpIn F m P Q a w) : (Code.scope c).wpIn F m P Q a w := by
  intro b k cs hro hb hr
  have h0 : (lone (b.atR a (.code (.scope c) :: k)) cs w).fenced P F := fenced_calm hb hr rfl
  obtain ⟨e, a₁, w₁, hq, harr⟩ := h b (.inScope c :: k) cs hro hb hr
  cases e with
  | normal => exact ⟨.normal, a₁, w₁, hq, .head h0 stepR_scope (StepsIn.trans harr (.one (fenced_calm hb hr rfl) stepR_inScope))⟩
  | exit id =>
    have hx : exitTo id (.inScope c :: k) = exitTo id k := by simp [exitTo]
    exact ⟨.exit id, a₁, w₁, hq, fun k' hk => .head h0 stepR_scope (harr.1 k' (by rw [hx]; exact hk)),
      fun hr' hk => let ⟨k₁, h1, h2⟩ := harr.2 hr' (by rw [hx]; exact hk); ⟨k₁, h1, .head h0 stepR_scope h2⟩⟩
  | goto l => exact absurd hq (hq0 l a₁ w₁)
  | ret => exact ⟨_, a₁, w₁, hq, .of_steps (.one h0 stepR_scope) harr⟩
  | panic ch => exact ⟨_, a₁, w₁, hq, .of_steps (.one h0 stepR_scope) harr⟩
  | outgrown => exact ⟨_, a₁, w₁, hq, .of_steps (.one h0 stepR_scope) harr⟩

/-- The machine's side of an abstract postcondition, at code: marks among the deferred calls. -/
def Nd (N : Nat) (w0 : World) (B0 : Nat → Prop) (e0 : Env) (h0 : Hp) (n : Nat) (K : St → Prop) (a : Act) (w : World) : Prop :=
  ∃ st B e, K st ∧ Rel w B e n st a ∧ Ext w0 B0 e0 h0 w B e st.hp ∧ DefOK N w B e st.hp a.defers
def Qd (N : Nat) (w0 : World) (B0 : Nat → Prop) (e0 : Env) (h0 : Hp) (n : Nat) (Q : Ex → St → Prop) (e : Exit) (a : Act) (w : World) : Prop :=
  ∃ x, toEx e = some x ∧ Nd N w0 B0 e0 h0 n (Q x) a w

set_option maxHeartbeats 2000000 in
theorem awp_sound (hm : P.follows .mixedOrders = true) (fid : Nat) (hntm : ntm P fid = n) (T : Nat → List Tg) (r : Option Nat) (N : Nat) (hN : N ≤ w0.heap.size) (hro : ∀ l0, r = some l0 → ∃ r0 : Loop, w0.heap[l0]? = some (.loop r0) ∧ l0 < w0.heap.size ∧ ∀ L, e0.has h0 L → (e0.β L).block ≠ l0) : ∀ (c : Code) (Q : Ex → St → Prop) (st : St) (a : Act) (w : World) (B : Nat → Prop) (e : Env) (m : Nat), okCode n T c = true →
    Rel w B e n st a → Ext w0 B0 e0 h0 w B e st.hp → DefOK N w B e st.hp a.defers → awp P fid T c Q st → c.wpIn (wr r) m P (Qd N w0 B0 e0 h0 n Q) a w := by
  intro c
  induction c with
  | skip =>
    intro Q st a w B e m _ hr hx hds h
    simp only [awp] at h
    exact wpIn_skip ⟨.normal, rfl, st, B, e, h, hr, hx, hds⟩
  | region id ops dr =>
    intro Q st a w B e m hok hr hx hds h
    simp only [okCode, Bool.and_eq_true, Bool.or_eq_true, Bool.not_eq_true'] at hok
    obtain ⟨⟨h1, h2⟩, h3⟩ := hok
    simp only [awp] at h
    have he := opsK_eq (P := P) (fid := fid) (K := Q .normal) (tagAt (T id)) ops.toList [] (T id) st (fun i => by simp) (fun i o j b q1 q2 => by have := guardsOK_mem _ _ h1 i o j b q1 q2; simpa using this)
    simp only [List.map_nil, List.nil_append, List.length_nil] at he
    rw [he] at h
    have h' : runL P fid ops.toList (tagAt (T id)) (List.range ops.size) st (Q .normal) := by rw [List.range_eq_range']; simpa using h
    have fin : ∀ ex a' w', Qm w B e st.hp n a.defers Q ex a' w' → Qd N w0 B0 e0 h0 n Q ex a' w' := by
      rintro ex a' w' ⟨x', hx', st', B', e', g1, g2, g3, g4⟩
      exact ⟨x', hx', st', B', e', g1, g2, hx.trans g3, by rw [g4]; exact hds.ext g3⟩
    cases dr with
    | false => exact wpIn_mono (wpIn_region (runL_sound (Q := Q) (w0 := w) (B0 := B) (e0 := e) (h0 := st.hp) (ds := a.defers) ops (dstsOK_mem h2) r m _ st a w B e hr (Ext.refl _ _ _ _) rfl h')) fin
    | true =>
      have h4 : drawOK ops.toList (T id) = true := by simpa using h3
      exact wpIn_mono (region_draw (w0 := w) (B0 := B) (e0 := e) (h0 := st.hp) (ds := a.defers) hm id ops (dstsOK_mem h2) (T id) h4 r m hr (Ext.refl _ _ _ _) rfl h') fin
  | seq x y ihx ihy =>
    intro Q st a w B e m hok hr hx hds h
    simp only [okCode, Bool.and_eq_true] at hok
    simp only [awp] at h
    refine wpIn_seq (wpIn_mono (ihx _ st a w B e m hok.1 hr hx hds h) ?_)
    rintro ex a' w' ⟨x', hx', hn⟩
    cases ex with
    | normal =>
      simp only [toEx, Option.some.injEq] at hx'
      subst hx'
      obtain ⟨st', B', e', g1, g2, g3, g4⟩ := hn
      exact ihy Q st' a' w' B' e' m hok.2 g2 g3 g4 g1
    | exit id => simp only [toEx, Option.some.injEq] at hx'; subst hx'; exact ⟨_, rfl, hn⟩
    | ret => simp only [toEx, Option.some.injEq] at hx'; subst hx'; exact ⟨_, rfl, hn⟩
    | goto l => simp [toEx] at hx'
    | panic ch => simp [toEx] at hx'
    | outgrown => simp [toEx] at hx'
  | cond c x y ihx ihy =>
    intro Q st a w B e m hok hr hx hds h
    simp only [okCode, Bool.and_eq_true] at hok
    simp only [awp] at h
    unfold condK at h
    split at h
    · rename_i t hc
      have h1 := ev_R hr c
      rw [hc] at h1
      have h1 := R_bool h1
      exact wpIn_cond_split h1 (fun ht => ihx Q st a w B e m hok.1 hr hx hds (h.1 ht)) (fun ht => ihy Q st a w B e m hok.2 hr hx hds (h.2 ht))
    · exact h.elim
  | block id c ih =>
    intro Q st a w B e m hok hr hx hds h
    simp only [okCode] at hok
    simp only [awp] at h
    refine wpIn_block (wpIn_mono (ih _ st a w B e m hok hr hx hds h) ?_)
    rintro ex a' w' ⟨x', hx', hn⟩
    cases ex with
    | normal => simp only [toEx, Option.some.injEq] at hx'; subst hx'; exact ⟨_, rfl, hn⟩
    | exit id' =>
      simp only [toEx, Option.some.injEq] at hx'; subst hx'
      show if id' = id then Qd N w0 B0 e0 h0 n Q .normal a' w' else Qd N w0 B0 e0 h0 n Q (.exit id') a' w'
      have hbq : blockQ id Q (.exit id') = fun s => if id' = id then Q .normal s else Q (.exit id') s := by funext s; simp [blockQ]
      rw [hbq] at hn
      split
      · rename_i hid
        simp only [hid, if_true] at hn
        exact ⟨.normal, rfl, hn⟩
      · rename_i hid
        simp only [hid, if_false] at hn
        exact ⟨.exit id', rfl, hn⟩
    | ret => simp only [toEx, Option.some.injEq] at hx'; subst hx'; exact ⟨_, rfl, hn⟩
    | goto l => simp [toEx] at hx'
    | panic ch => simp [toEx] at hx'
    | outgrown => simp [toEx] at hx'
  | loop c ih =>
    intro Q st a w B e m hok hr hx hds h
    simp only [okCode] at hok
    simp only [awp] at h
    obtain ⟨I, μ, h1, h2⟩ := h
    let J : Nat → Act → World → Prop := fun j a w => ∃ st B e, I st ∧ μ st = j ∧ Rel w B e n st a ∧ Ext w0 B0 e0 h0 w B e st.hp ∧ DefOK N w B e st.hp a.defers
    have hex : ∀ a w, (∃ j, J j a w) → ∃ j, J j a w ∧ ∀ i, i < j → ¬ J i a w := by
      intro a w ⟨j, hj⟩
      induction j using Nat.strongRecOn with
      | _ j ihj =>
        by_cases hi : ∃ i, i < j ∧ J i a w
        · obtain ⟨i, h1, h2⟩ := hi; exact ihj i h1 h2
        · exact ⟨j, hj, fun i h1 h2 => hi ⟨i, h1, h2⟩⟩
    let M : Act → World → Nat := fun a w => (Classical.epsilon fun j => J j a w ∧ ∀ i, i < j → ¬ J i a w)
    have hM : ∀ a w, (∃ j, J j a w) → J (M a w) a w ∧ ∀ i, i < M a w → ¬ J i a w := fun a w h => Classical.epsilon_spec (hex a w h)
    refine wpIn_loop (fun a w => ∃ j, J j a w) M ⟨μ st, st, B, e, h1, rfl, hr, hx, hds⟩ ?_
    intro a₁ w₁ hJ
    obtain ⟨⟨st₁, B₁, e₁, g1, g2, g3, g4, g5⟩, _⟩ := hM a₁ w₁ hJ
    refine wpIn_mono (ih _ st₁ a₁ w₁ B₁ e₁ m hok g3 g4 g5 (h2 st₁ g1)) ?_
    rintro ex a' w' ⟨x', hx', hn⟩
    cases ex with
    | normal =>
      simp only [toEx, Option.some.injEq] at hx'
      subst hx'
      obtain ⟨st', B', e', ⟨q1, q2⟩, q3, q4, q5⟩ := hn
      have hJ' : J (μ st') a' w' := ⟨st', B', e', q1, rfl, q3, q4, q5⟩
      refine ⟨⟨_, hJ'⟩, ?_⟩
      have hmin := (hM a' w' ⟨_, hJ'⟩).2
      have : M a' w' ≤ μ st' := by
        rcases Nat.lt_or_ge (μ st') (M a' w') with h | h
        · exact absurd hJ' (hmin _ h)
        · exact h
      rw [g2] at q2
      omega
    | exit id => simp only [toEx, Option.some.injEq] at hx'; subst hx'; exact ⟨_, rfl, hn⟩
    | ret => simp only [toEx, Option.some.injEq] at hx'; subst hx'; exact ⟨_, rfl, hn⟩
    | goto l => simp [toEx] at hx'
    | panic ch => simp [toEx] at hx'
    | outgrown => simp [toEx] at hx'
  | exit id =>
    intro Q st a w B e m _ hr hx hds h
    simp only [awp] at h
    exact wpIn_exit ⟨_, rfl, st, B, e, h, hr, hx, hds⟩
  | label l =>
    intro Q st a w B e m _ hr hx hds h
    simp only [awp] at h
    exact wpIn_label ⟨.normal, rfl, st, B, e, h, hr, hx, hds⟩
  | scope c ih =>
    intro Q st a w B e m hok hr hx hds h
    simp only [okCode] at hok
    simp only [awp] at h
    exact wpIn_scope_straight (fun l a w hq => by obtain ⟨x, hx, _⟩ := hq; simp [toEx] at hx) (ih Q st a w B e m hok hr hx hds h)
  | ret =>
    intro Q st a w B e m _ hr hx hds h
    simp only [awp] at h
    exact wpIn_ret ⟨.ret, rfl, st, B, e, h, hr, hx, hds⟩
  | goto l => intro Q st a w B e m _ _ _ _ h; simp [awp] at h
  | rangeFunc g ps asg body _ _ =>
    intro Q st a w B e m hok hr hx hds h
    simp only [awp] at h
    unfold rangeK at h
    split at h
    · rename_i gf caps hg
      obtain ⟨hb, hcall⟩ := h
      have h1 := ev_R hr g
      rw [hg] at h1
      obtain ⟨vs, h2, h3, h4⟩ := R_fn h1
      refine wpIn_rangeFunc ?_
      intro fn _
      -- the record is laid
      obtain ⟨l, mark, W1, rec, q1, q2, q3, q4, q5, q6, q7, q8, q9, q10, q11, q12⟩ : ∃ (l : Nat) (mark : List Deferred) (W0 : World) (rec : Loop), (Instr.enterLoop fn a.tmps ps asg body (wr r).round).run P w = .ok (l, mark) (W0.alloc (.loop rec)) ∧ W0.heap.size = l ∧
          HRel W0 B e st.hp ∧ Ext w B e st.hp W0 B e st.hp ∧ rec.state = .ready ∧ rec.pending = none ∧ rec.params = ps ∧ rec.assign = asg ∧ rec.body = body ∧ rec.tmps = a.tmps ∧ DefOK N W0 B e st.hp (mark ++ a.defers) ∧ True := by
        cases r with
        | none =>
          refine ⟨w.heap.size + 1, _, w.alloc (.deferred (some [])), _, run_enterLoop_outer _ _ _ _ _, by simp, hr.hp.push _, Ext.push _, rfl, rfl, rfl, rfl, rfl, rfl, ?_, trivial⟩
          obtain ⟨Ds, k1, k2, k3⟩ := hds.ext (Ext.push (w := w) (B := B) (e := e) (h := st.hp) (.deferred (some [])))
          obtain ⟨Ds', k1', _, k3'⟩ := hds
          have hinj : Ds' = Ds := by
            have := k1'.symm.trans k1
            exact (List.map_inj_right (fun x y hxy => by injection hxy with h1 _; injection h1)).1 this
          subst hinj
          refine ⟨w.heap.size :: Ds', by rw [k1]; rfl, List.nodup_cons.2 ⟨fun hin => ?_, k2⟩, fun D hD => ?_⟩
          · have := (k3' _ hin).2.2.1; omega
          · rcases List.mem_cons.1 hD with rfl | hD
            · refine ⟨Nat.le_trans hN hx.size, fun hbb => by have := hr.hp.bnd _ hbb; omega, by simp, World.alloc_heap_new _ _, fun L hL hE => ?_⟩
              have := (hr.hp.lt hL).1
              omega
            · exact k3 D hD
        | some l0 =>
          obtain ⟨r0, z1, z2, z3⟩ := hro l0 rfl
          obtain ⟨z4, z5, z6⟩ := unowned_ext hx z2 z3
          exact ⟨w.heap.size, [], w, _, run_enterLoop_inner (z5.trans z1) _ _ _ _ _, rfl, hr.hp, Ext.refl _ _ _ _, rfl, rfl, rfl, rfl, rfl, rfl, hds, trivial⟩
      subst q2
      have hrunb : ∀ w', (invoke (.fn (.func gf) vs) #[.func (.yield W1.heap.size) #[] #[]]).run P w' = .ok (.enter gf (#[.func (.yield W1.heap.size) #[] #[]] ++ vs)) w' := by
        intro w'
        unfold hasBody at hb
        split at hb
        · rename_i fn' hfn
          simp only [Bool.and_eq_true, bne_iff_ne, ne_eq] at hb
          obtain ⟨bd, hbd⟩ := Option.isSome_iff_exists.1 hb.1
          simp [invoke, callFunc, hfn, hb.2, hbd]
        · cases hb
      let W2 := W1.alloc (.loop rec)
      let L := st.hp.fresh fid lpSlot
      let c1 : Con := .lp st.slots (ntm P fid) ps.toList asg body .ready
      let e1 := e.upd L ⟨W1.heap.size, 0, .none⟩ undef
      have xa : Ext W1 B e st.hp W2 B e1 (st.hp.alloc fid lpSlot c1) := Ext.alloc fid lpSlot c1 (.loop rec) ⟨W1.heap.size, 0, .none⟩ undef W2 rfl rfl rfl rfl (fun _ h => h) (fun _ h => .inl h) rfl
      have hβ : (e1.β L).block = W1.heap.size := by simp [e1, Env.upd]
      have ha : HRel W2 B e1 (st.hp.alloc fid lpSlot c1) := HRel.alloc q3 fid lpSlot c1 (.loop rec) ⟨W1.heap.size, 0, .none⟩ undef W2 rfl rfl rfl rfl (fun _ h => h) (fun _ h => .inl h) rfl (by
        refine ⟨?_, rec, ?_, by rw [q7], q8, q9, by rw [q10, hr.size, hntm], fun i => ?_, q5, q6⟩
        · show ¬ B (e1.β L).block
          rw [hβ]; intro hbb
          have := q3.bnd _ hbb; omega
        · show W2.heap[(e1.β L).block]? = _
          rw [hβ]; exact World.alloc_heap_new _ _
        · rw [q10]; exact ((hr.slots i).ext hr.hp q4).ext q3 xa)
      have hLk : L.k < (st.hp.alloc fid lpSlot c1).cnt L.f L.s := by simp [L, Hp.fresh, Hp.alloc]
      have hyl : R W2 B (e1.E (st.hp.alloc fid lpSlot c1)) (.yl L) (.func (.yield W1.heap.size) #[] #[]) := .ref _ _ ⟨hLk, by rw [hβ]⟩
      refine ⟨W1.heap.size, mark, W2, { target := .fn (.func gf) vs, args := #[.func (.yield W1.heap.size) #[] #[]] }, W2, gf, #[.func (.yield W1.heap.size) #[] #[]] ++ vs, W2, q1, ?_, fun _ _ => trivial, hrunb W2, fun hh => by simp [wr, Fence.wide] at hh, ?_⟩
      · simp only [resolve, h2]
        simp [go_sem]
        trace_state
      · have hargs : ∀ i, i < (AV.yl (st.hp.fresh fid lpSlot) :: caps).length → R W2 B (e1.E (st.hp.alloc fid lpSlot c1)) ((AV.yl (st.hp.fresh fid lpSlot) :: caps).getD i .un) ((#[Value.func (.yield W1.heap.size) #[] #[]] ++ vs).getD i undef) := by
          intro i hi
          cases i with
          | zero =>
            have e0' : (#[Value.func (.yield W1.heap.size) #[] #[]] ++ vs).getD 0 undef = Value.func (.yield W1.heap.size) #[] #[] := by
              simp only [Array.getD_eq_getD_getElem?]
              rw [Array.getElem?_append_left (by simp)]
              simp
            rw [e0']; exact hyl
          | succ i =>
            have hj : i < caps.length := by simpa using hi
            have e1' : (AV.yl (st.hp.fresh fid lpSlot) :: caps).getD (i + 1) .un = caps.getD i .undef := by
              simp [hj]
            have e2' : (#[Value.func (.yield W1.heap.size) #[] #[]] ++ vs).getD (i + 1) undef = vs.getD i undef := by
              have : i < vs.size := by omega
              simp only [Array.getD_eq_getD_getElem?]
              rw [Array.getElem?_append_right (by simp)]
              simp
            rw [e1', e2']
            exact ((h4 i hj).ext hr.hp q4).ext q3 xa
        have hsz : (#[Value.func (.yield W1.heap.size) #[] #[]] ++ vs).size = (AV.yl (st.hp.fresh fid lpSlot) :: caps).length := by simp [h3]; omega
        have hcc := hcall W2 B e1 _ ha hsz hargs
        refine calls_in r _ (Calls.mono hcc fun en w3 hR => ?_)
        obtain ⟨v, rr, h', B', e', rfl, g2, g3, g4, g5⟩ := hR
        have hLk' : L.k < h'.cnt L.f L.s := Nat.lt_of_lt_of_le hLk (g3.cnt _ _)
        have hβ' : (e'.β L).block = W1.heap.size := by rw [(g3.env L hLk).1]; exact hβ
        have xw : Ext w B e st.hp w3 B' e' h' := (q4.trans xa).trans g3
        have hdx : DefOK N w3 B' e' h' (mark ++ a.defers) := q11.ext (xa.trans g3)
        have hs3 : ∀ i, R w3 B' (e'.E h') (st.slots i) (a.tmps.getD i undef) := fun i => (hr.slots i).ext hr.hp xw
        have hcon := g2.con L hLk'
        unfold endLpC at g5
        have hend : ∀ (x : Ex) (jump : Option Code) (rec' : Loop), e'.has h' L → w3.heap[W1.heap.size]? = some (.loop rec') → rec'.state ≠ .busy → rec'.pending = jump → Q x ⟨st.slots, h'.set L .none⟩ →
            (match x with | .normal => jump = none | x => jump = some (exC x)) → rangePost (wr r) m P W1.heap.size (Qd N w0 B0 e0 h0 n Q) { a with defers := mark ++ a.defers } (.returned v) w3 := by
          intro x jump rec' hL hrow hst hpend hQ hx'
          refine ⟨jump, _, by rw [← hpend]; exact run_endLoop hrow hst, ?_⟩
          obtain ⟨p1, p2⟩ := putDrop g2 hL (.loop { rec' with state := .exhausted })
          rw [hβ'] at p1 p2
          have hrel : Rel (w3.putObj W1.heap.size (.loop { rec' with state := .exhausted })) B' e' n ⟨st.slots, h'.set L .none⟩ { a with defers := mark ++ a.defers } :=
            ⟨p1, fun i => (hs3 i).ext g2 p2, hr.size⟩
          have hnd : ∀ x', toEx x' = some x → Qd N w0 B0 e0 h0 n Q x' { a with defers := mark ++ a.defers } (w3.putObj W1.heap.size (.loop { rec' with state := .exhausted })) := fun x' hx'' =>
            ⟨x, hx'', ⟨st.slots, h'.set L .none⟩, B', e', hQ, hrel, (hx.trans xw).trans p2, hdx.ext p2⟩
          cases x with
          | normal => simp only at hx'; subst hx'; exact hnd .normal rfl
          | exit id => simp only at hx'; subst hx'; exact wpIn_exit (hnd (.exit id) rfl)
          | ret => simp only at hx'; subst hx'; exact wpIn_ret (hnd .ret rfl)
        split at g5
        · rename_i sl' n' ps' aas' bd' hcc
          rw [show h'.con L = _ from hcc] at hcon
          obtain ⟨_, rec', k1, _, _, _, _, _, k2, k3⟩ := hcon
          rw [hβ'] at k1
          exact hend .normal none rec' ⟨hLk', by rw [show h'.con L = _ from hcc]; trivial⟩ k1 (by rw [k2]; simp) k3 g5 rfl
        · rename_i sl' n' ps' aas' bd' id hcc
          rw [show h'.con L = _ from hcc] at hcon
          obtain ⟨_, rec', k1, _, _, _, _, _, k2, k3⟩ := hcon
          rw [hβ'] at k1
          exact hend (.exit id) (some (exC (.exit id))) rec' ⟨hLk', by rw [show h'.con L = _ from hcc]; trivial⟩ k1 (by rw [k2]; simp) k3 g5 rfl
        · rename_i sl' n' ps' aas' bd' hcc
          rw [show h'.con L = _ from hcc] at hcon
          obtain ⟨_, rec', k1, _, _, _, _, _, k2, k3⟩ := hcon
          rw [hβ'] at k1
          exact hend .ret (some (exC .ret)) rec' ⟨hLk', by rw [show h'.con L = _ from hcc]; trivial⟩ k1 (by rw [k2]; simp) k3 g5 rfl
        · exact g5.elim
    · exact h.elim
  | refuse why => intro Q st a w B e m _ _ _ _ h; simp [awp] at h

theorem resK_sound (tmps : Array Value) {w : World} {B : Nat → Prop} {e : Env} {st : St} (hr : HRel w B e st.hp) (hs : ∀ i, R w B (e.E st.hp) (st.slots i) (tmps.getD i undef)) : ∀ (rs : List ResultVar) (K : List AV → Prop), resK P rs st K →
    ∃ (vs : List Value) (avs : List AV), (rs.mapM (fun | .tmp t => pure (tmps.getD t undef) | .cell a t => do loadVar t (← asAddr (tmps.getD a undef)) : ResultVar → Sem Value)).run P w = .ok vs w ∧ vs.length = avs.length ∧
      (∀ j, j < avs.length → R w B (e.E st.hp) (avs.getD j .undef) (vs.getD j undef)) ∧ K avs := by
  intro rs
  induction rs with
  | nil => intro K h; exact ⟨[], [], by simp, rfl, fun j hj => by simp at hj, h⟩
  | cons x rs ih =>
    intro K h
    cases x with
    | tmp t =>
      simp only [resK] at h
      obtain ⟨vs, avs, h1, h2, h3, h4⟩ := ih _ h
      refine ⟨tmps.getD t undef :: vs, st.slots t :: avs, ?_, by simp [h2], fun j hj => ?_, h4⟩
      · rw [List.mapM_cons, Sem.run_bind]
        simp only [Sem.run_pure, Result.andThen_ok, Sem.run_bind, h1]
      · cases j with
        | zero => simpa using hs t
        | succ j => simpa using h3 j (by simpa using hj)
    | cell a t =>
      simp only [resK] at h
      obtain ⟨ht, h⟩ := h
      obtain ⟨v, av, g1, g2, g3⟩ := loadK_sound (P := P) hr ht (hs a) h
      obtain ⟨vs, avs, h1, h2, h3, h4⟩ := ih _ g3
      have hp : ∃ p, tmps.getD a undef = .pointer (some p) := by
        unfold loadK at h
        split at h
        · rename_i hsl
          have := hs a; rw [hsl] at this
          obtain ⟨b, off, _, hv, _⟩ := R_ip this
          exact ⟨_, hv⟩
        · rename_i hsl
          have := hs a; rw [hsl] at this
          obtain ⟨_, ⟨p, hv⟩, _⟩ := R_pt this
          exact ⟨p, hv⟩
        · exact h.elim
      obtain ⟨p, hp⟩ := hp
      have g1' : (loadVar t p).run P w = .ok v w := by
        rw [hp] at g1
        simpa [Instr.loadAt, Instr.sureAddr] using g1
      refine ⟨v :: vs, av :: avs, ?_, by simp [h2], fun j hj => ?_, h4⟩
      · rw [List.mapM_cons, Sem.run_bind]
        have : (do loadVar t (← asAddr (tmps.getD a undef)) : Sem Value).run P w = .ok v w := by
          rw [hp]; simp [asAddr, g1']
        rw [this]
        simp only [Result.andThen_ok, Sem.run_bind, h1, Sem.run_pure]
      · cases j with
        | zero => simpa using g2
        | succ j => simpa using h3 j (by simpa using hj)

/-- The marks are come to, one by one; then the results. -/
theorem leave_sound {fn : Func} {K : AV → Hp → Prop} {tmps : Array Value} {w0 : World} {B0 : Nat → Prop} {e0 : Env} {h0 : Hp} (m : Nat) {B : Nat → Prop} {e : Env} {st : St}
    (hend : resK P fn.results.toList st (fun vs => ∃ h : Hp, (∀ L, h.con L = .none ∨ h.con L = st.hp.con L) ∧ h.cnt = st.hp.cnt ∧ K (oneOf vs) h)) : ∀ (Ds : List Nat) (w : World), Ds.Nodup → HRel w B e st.hp → (∀ i, R w B (e.E st.hp) (st.slots i) (tmps.getD i undef)) → Ext w0 B0 e0 h0 w B e st.hp →
    (∀ D ∈ Ds, w0.heap.size ≤ D ∧ ¬ B D ∧ D < w.heap.size ∧ w.heap[D]? = some (.deferred (some [])) ∧ ∀ L, e.has st.hp L → (e.β L).block ≠ D) →
    LeavesInM (wr none) m P fn tmps (fun en w' => ∃ v₁ r h' B' e', en = .returned v₁ ∧ HRel w' B' e' h' ∧ Ext w0 B0 e0 h0 w' B' e' h' ∧ R w' B' (e'.E h') r v₁ ∧ K r h') (Ds.map (fun D => { target := .collected D, args := #[] })) .returning w := by
  intro Ds
  induction Ds with
  | nil =>
    intro w _ hh hs hx _
    obtain ⟨vs', avs, q1, q2, q3, h', q4, q6, q5⟩ := resK_sound tmps hh hs _ _ hend
    have hxd := Ext.drop (w := w) (B := B) (e := e) q4 q6
    refine ⟨if h : vs'.length = 1 then vs'[0] else .tuple vs'.toArray, ?_, _, oneOf avs, h', B, e, rfl, HRel.drop hh q4 q6, hx.trans hxd, ?_, q5⟩
    · have hm : (fn.results.mapM (fun | .tmp t => pure (tmps.getD t undef) | .cell a t => do loadVar t (← asAddr (tmps.getD a undef)) : ResultVar → Sem Value)).run P w = .ok vs'.toArray w := by
        cases hres : fn.results with
        | mk l =>
          rw [hres] at q1
          rw [List.mapM_toArray, Sem.run_map, q1]
          rfl
      unfold results
      rw [Sem.run_bind]
      refine (congrArg (fun r : Result (Array Value) => r.andThen fun a w' => Sem.run P (pure (if h : a.size = 1 then a[0] else Value.tuple a)) w') hm).trans ?_
      simp
    · split
      · rename_i h1
        obtain ⟨v0, rfl⟩ := List.length_eq_one_iff.1 h1
        obtain ⟨av0, rfl⟩ := List.length_eq_one_iff.1 (q2.symm.trans h1)
        have := q3 0 (by simp)
        simp only [List.getD_cons_zero] at this
        exact (by simpa [oneOf] using this : R _ _ _ _ _).ext hh hxd
      · rename_i h1
        have : oneOf avs = .tup avs := by
          match avs, q2 with
          | [], _ => rfl
          | [x], q2 => exact absurd q2 h1
          | x :: y :: r, _ => rfl
        rw [this]
        refine .tup _ _ (by simp [q2]) (fun j hj => ?_)
        have := (q3 j hj).ext hh hxd
        simpa using this
  | cons D Ds ih =>
    intro w hnd hh hs hx hD
    obtain ⟨g0, gb, g1, g2, g3⟩ := hD D (by simp)
    have hnd' := List.nodup_cons.1 hnd
    refine ⟨by simp, .inl ⟨D, w.putObj D (.deferred none), rfl, run_takeDeferred g2, ?_⟩⟩
    have hother : ∀ b, (B b ∨ ∃ L, e.has st.hp L ∧ (e.β L).block = b) → (w.putObj D (.deferred none)).heap[b]? = w.heap[b]? := by
      rintro b (hb | ⟨L, hL, rfl⟩)
      · exact World.putObj_heap_other (fun hE => gb (hE ▸ hb))
      · exact World.putObj_heap_other (g3 L hL)
    refine ih _ hnd'.2 (hh.free (by simp) hother) (fun i => (hs i).mono (fun b hb => hother b (.inl hb)) (fun _ h => h) (fun _ _ h => h)) ?_ (fun D' hD' => ?_)
    · exact ⟨by simpa using hx.size, hx.os, hx.tape, hx.output, hx.bsub, hx.bnew, fun b hb ho => by rw [World.putObj_heap_other (by omega)]; exact hx.keep b hb ho, hx.onew, hx.cnt, hx.env, hx.live⟩
    · obtain ⟨k0, kb, k1, k2, k3⟩ := hD D' (by simp [hD'])
      have hne : D' ≠ D := fun hE => hnd'.1 (hE ▸ hD')
      exact ⟨k0, kb, by simpa using k1, by rw [World.putObj_heap_other hne]; exact k2, k3⟩

/-- **A function's contract out of the abstract run of its body.** -/
theorem CallK.of_awp' (hm : P.follows .mixedOrders = true) (T : Nat → List Tg) {f : FuncId} {fn : Func} {c : Code} {args : List AV} {h : Hp} {K : AV → Hp → Prop} (hf : P.funcs[f]? = some fn) (hb : fn.body = some c) (hok : okCode fn.ntmps T c = true)
    (hl : args.length ≤ fn.ntmps) {Q : Ex → St → Prop} (hQ : ∀ x st, Q x st → endK P fn K x st) (hk : awp P f T c Q (enter args h)) : CallK P f args h K := by
  intro w B e vs hh hs hargs
  refine (callsIn_wide (n := 0)).1 ?_
  refine callsIn_of_wp_marks hf hb trivial ?_ rfl
  have hrel : Rel w B e fn.ntmps (enter args h) { tmps := vs ++ Array.replicate (fn.ntmps - vs.size) undef, defers := [] } := by
    refine ⟨hh, fun i => ?_, by simp; omega⟩
    simp only [enter]
    by_cases hi : i < args.length
    · have e2 : (vs ++ Array.replicate (fn.ntmps - vs.size) undef).getD i undef = vs.getD i undef := by
        simp only [Array.getD_eq_getD_getElem?]
        rw [Array.getElem?_append_left (by omega)]
      rw [e2]
      exact hargs i hi
    · have e1 : args.getD i .un = .un := by rw [List.getD_eq_getElem?_getD, List.getElem?_eq_none (by omega)]; rfl
      have e2 : (vs ++ Array.replicate (fn.ntmps - vs.size) undef).getD i undef = undef := by
        simp only [Array.getD_eq_getD_getElem?]
        rw [Array.getElem?_append_right (by omega)]
        by_cases hi2 : i - vs.size < fn.ntmps - vs.size
        · simp [hi2]
        · simp [hi2]
      rw [e1, e2]; exact .un
  have hntm : ntm P f = fn.ntmps := by unfold ntm; rw [hf]
  have main := awp_sound (w0 := w) (B0 := B) (e0 := e) (h0 := h) (n := fn.ntmps) hm f hntm T none w.heap.size (Nat.le_refl _) (fun l0 hl0 => by simp at hl0) c _ _ _ w B e 0 hok hrel (Ext.refl w B e h) (DefOK.nil _ _ _ _ _) hk
  refine wpIn_mono main ?_
  rintro ex a' w' ⟨x', hx', st', B', e', g1, g2, g3, Ds, d1, d2, d3⟩
  have fin : ∀ x', endK P fn K x' st' → LeavesInM (wr none) 0 P fn a'.tmps (fun en w' => ∃ v₁ r h' B' e', en = .returned v₁ ∧ HRel w' B' e' h' ∧ Ext w B e h w' B' e' h' ∧ R w' B' (e'.E h') r v₁ ∧ K r h') a'.defers .returning w' := by
    intro x' hend
    have hend' : resK P fn.results.toList st' (fun vs => ∃ h : Hp, (∀ L, h.con L = .none ∨ h.con L = st'.hp.con L) ∧ h.cnt = st'.hp.cnt ∧ K (oneOf vs) h) := by
      cases x' with
      | normal => exact hend
      | exit id => exact hend.elim
      | ret => exact hend
    rw [d1]
    exact leave_sound 0 hend' Ds w' d2 g2.hp g2.slots g3 d3
  cases ex with
  | normal =>
    simp only [toEx, Option.some.injEq] at hx'; subst hx'
    exact fin _ (hQ _ _ g1)
  | ret =>
    simp only [toEx, Option.some.injEq] at hx'; subst hx'
    exact fin _ (hQ _ _ g1)
  | exit id =>
    simp only [toEx, Option.some.injEq] at hx'; subst hx'
    exact (hQ _ _ g1).elim
  | goto l => simp [toEx] at hx'
  | panic ch => simp [toEx] at hx'
  | outgrown => simp [toEx] at hx'

theorem resK_mono : ∀ {rs : List ResultVar} {st : St} {K K' : List AV → Prop}, resK P rs st K → (∀ v, K v → K' v) → resK P rs st K' := by
  intro rs
  induction rs with
  | nil => intro st K K' h hk; exact hk _ h
  | cons x rs ih =>
    intro st K K' h hk
    cases x with
    | tmp t => simp only [resK] at h ⊢; exact ih h (fun v hv => hk _ hv)
    | cell a t =>
      simp only [resK] at h ⊢
      obtain ⟨v, h1, h2⟩ := fn_loadK _ h.2
      exact ⟨h.1, h2 _ (ih h1 (fun v hv => hk _ hv))⟩

end

end Go.T
/- Pure functions: the heap behind the call is the heap ahead of it. -/
namespace Go.T
open Go

mutual
/-- No label stands in the value. -/
def AV.lf : AV → Bool
  | .l _ _ xs => AV.lfs xs
  | .ip cs => AV.lfs cs
  | .agg cs => AV.lfs cs
  | .tup cs => AV.lfs cs
  | .fn _ cs => AV.lfs cs
  | .pt _ _ _ _ => false
  | .os _ => false
  | .sl _ _ _ _ => false
  | .mr _ => false
  | .yl _ => false
  | _ => true
def AV.lfs : List AV → Bool
  | [] => true
  | x :: xs => AV.lf x && AV.lfs xs
end

theorem lfs_iff : ∀ {xs : List AV}, AV.lfs xs = true ↔ ∀ x ∈ xs, x.lf = true := by
  intro xs
  induction xs with
  | nil => simp [AV.lfs]
  | cons x xs ih => simp [AV.lfs, ih]

theorem lfs_getD {xs : List AV} (h : AV.lfs xs = true) (j : Nat) : (xs.getD j .undef).lf = true := by
  rcases Nat.lt_or_ge j xs.length with hj | hj
  · have : xs.getD j .undef = xs[j] := by simp [hj]
    rw [this]
    exact lfs_iff.1 h _ (List.getElem_mem hj)
  · rw [List.getD_eq_getElem?_getD, List.getElem?_eq_none hj]
    simp [AV.lf]

theorem lf_cells {x : AV} (h : x.lf = true) : AV.lfs x.cells = true := by
  unfold AV.cells
  split
  · simpa [AV.lf] using h
  · simp [AV.lfs, h]

theorem R.lf {w : World} {B : Nat → Prop} {e : Env} {h : Hp} {E' : AV → Value → Prop} {a : AV} {v : Value} (hR : R w B (e.E h) a v) (hl : a.lf = true) : R w B E' a v := by
  induction hR with
  | undef v => exact .undef v
  | un => exact .un
  | int k n => exact .int k n
  | bool b => exact .bool b
  | str s => exact .str s
  | nilp => exact .nilp
  | nilf => exact .nilf
  | nilm => exact .nilm
  | l0 ex sz a c hx => exact .l0 ex sz a c hx
  | l ex sz xs b off cap vs h1 h2 h3 h4 h5 h6 _ h8 ih =>
    simp only [AV.lf] at hl
    exact .l ex sz xs b off cap vs h1 h2 h3 h4 h5 h6 (fun i j hi hj => ih i j hi hj (lfs_getD (lf_cells (lfs_iff.1 hl _ (List.getElem_mem hi))) j)) h8
  | ip cs b off vs h1 h2 _ ih => exact .ip cs b off vs h1 h2 (fun j hj => ih j hj (lfs_getD (by simpa [AV.lf] using hl) j))
  | agg cs vs h1 _ ih => exact .agg cs vs h1 (fun j hj => ih j hj (lfs_getD (by simpa [AV.lf] using hl) j))
  | tup cs vs h1 _ ih => exact .tup cs vs h1 (fun j hj => ih j hj (lfs_getD (by simpa [AV.lf] using hl) j))
  | fn f cs vs h1 _ ih => exact .fn f cs vs h1 (fun j hj => ih j hj (lfs_getD (by simpa [AV.lf] using hl) j))
  | ref a v hr =>
    cases a <;> first | exact hr.elim | (simp [AV.lf] at hl)

/-- **A function that leaves what it found, and whose answer bears no label, leaves the heap aas it was.** -/
theorem CallK.pure {P : Program} {f : Nat} {args : List AV} {h : Hp} {K : AV → Prop} (hc : CallK P f args h (fun r h' => r.lf = true ∧ (∀ L, h.con L = .none ∨ h'.con L = h.con L) ∧ K r)) :
    CallK P f args h (fun r h' => K r ∧ h' = h) := by
  intro w B e vs h1 h2 h3
  refine (hc w B e vs h1 h2 h3).mono ?_
  rintro en w' ⟨v, r, h', B', e', rfl, g2, g3, g4, g5, g6, g7⟩
  exact ⟨v, r, h, B', e', rfl, h1.back g2 g3 g6, g3.back g6, g4.lf g5, g7, rfl⟩

theorem PureF.use {P : Program} {f : FuncId} {args : List AV} {r : AV} (hp : PureF P f args r) {h : Hp} {K : AV → Hp → Prop} (hk : K r h) : CallK P f args h K :=
  (hp h).mono fun _ _ ⟨h1, h2⟩ => by rw [h1, h2]; exact hk

/-- What was found is aas it was. -/
def Keeps (h H : Hp) : Prop := ∀ L, h.con L = .none ∨ H.con L = h.con L
theorem Keeps.refl (h : Hp) : Keeps h h := fun _ => .inr rfl
theorem Keeps.alloc {h H : Hp} (k : Keeps h H) (f s : Nat) (c : Con) : Keeps h (H.alloc f s c) := by
  intro L
  by_cases hE : L = H.fresh f s
  · have h1 := H.ok (H.fresh f s) (by simp [Hp.fresh])
    rcases k L with h2 | h2
    · exact .inl h2
    · rw [hE, h1] at h2
      rw [hE]; exact .inl h2.symm
  · rcases k L with h2 | h2
    · exact .inl h2
    · right; rw [← h2]; exact if_neg hE
theorem Keeps.set {h H : Hp} (k : Keeps h H) {L : Lab} (hL : h.con L = .none) (c : Con) : Keeps h (H.set L c) := by
  intro M
  by_cases hE : M = L
  · rw [hE]; exact .inl hL
  · rcases k M with h2 | h2
    · exact .inl h2
    · right; rw [← h2]; exact if_neg hE
theorem Keeps.new {h H : Hp} (k : Keeps h H) (f s : Nat) : h.con ⟨f, s, H.cnt f s⟩ = .none := by
  rcases k ⟨f, s, H.cnt f s⟩ with h2 | h2
  · exact h2
  · rw [← h2]; exact H.ok _ (by simp)
theorem Keeps.var {h H : Hp} (k : Keeps h H) (f s : Nat) (c c' : Con) : Keeps h ((H.alloc f s c).set ⟨f, s, H.cnt f s⟩ c') := (k.alloc f s c).set (k.new f s) c'

/-- The end of a pure function that answers r. -/
def endP (P : Program) (fn : Func) (r : AV) (h : Hp) : Ex → St → Prop
  | .exit _, _ => False
  | _, st => resK P fn.results.toList st (fun vs => oneOf vs = r) ∧ Keeps h st.hp

theorem PureAt.of_awp {P : Program} (hm : P.follows .mixedOrders = true) (T : Nat → List Tg) {f : FuncId} {fn : Func} {c : Code} {args : List AV} {h : Hp} {r : AV} (hf : P.funcs[f]? = some fn) (hb : fn.body = some c) (hok : okCode fn.ntmps T c = true)
    (hl : args.length ≤ fn.ntmps) (hlf : r.lf = true) (hk : awp P f T c (endP P fn r h) (enter args h)) : CallK P f args h (fun r' h' => r' = r ∧ h' = h) := by
  have hQ : ∀ ex st, endP P fn r h ex st → endK P fn (fun r' h' => r' = r ∧ Keeps h h') ex st := by
    have key : ∀ st, (resK P fn.results.toList st (fun vs => oneOf vs = r) ∧ Keeps h st.hp) → resK P fn.results.toList st (fun vs => ∃ h' : Hp, (∀ L, h'.con L = .none ∨ h'.con L = st.hp.con L) ∧ h'.cnt = st.hp.cnt ∧ oneOf vs = r ∧ Keeps h h') := by
      rintro st ⟨h1, h2⟩
      exact resK_mono h1 fun vs hv => ⟨st.hp, fun _ => .inr rfl, rfl, hv, h2⟩
    intro ex st hx
    cases ex with
    | exit id => exact hx.elim
    | normal => exact key st hx
    | ret => exact key st hx
  refine CallK.pure ((CallK.of_awp' hm T hf hb hok hl hQ hk).mono ?_)
  rintro r' h' ⟨rfl, h2⟩
  exact ⟨hlf, h2, rfl⟩

theorem PureF.of_awp {P : Program} (hm : P.follows .mixedOrders = true) (T : Nat → List Tg) {f : FuncId} {fn : Func} {c : Code} {args : List AV} {r : AV} (hf : P.funcs[f]? = some fn) (hb : fn.body = some c) (hok : okCode fn.ntmps T c = true)
    (hl : args.length ≤ fn.ntmps) (hlf : r.lf = true) (hk : ∀ h, awp P f T c (endP P fn r h) (enter args h)) : PureF P f args r :=
  fun h => PureAt.of_awp hm T hf hb hok hl hlf (hk h)

/-- The end of a function that leaves the heap aas it stands. -/
def endH (P : Program) (fn : Func) (K : AV → Hp → Prop) : Ex → St → Prop
  | .exit _, _ => False
  | _, st => resK P fn.results.toList st (fun vs => K (oneOf vs) st.hp)
theorem CallK.of_awpH {P : Program} (hm : P.follows .mixedOrders = true) (T : Nat → List Tg) {f : FuncId} {fn : Func} {c : Code} {args : List AV} {h : Hp} {K : AV → Hp → Prop} (hf : P.funcs[f]? = some fn) (hb : fn.body = some c) (hok : okCode fn.ntmps T c = true)
    (hl : args.length ≤ fn.ntmps) (hk : awp P f T c (endH P fn K) (enter args h)) : CallK P f args h K := by
  refine CallK.of_awp' hm T hf hb hok hl (fun ex st hx => ?_) hk
  have key : ∀ st, resK P fn.results.toList st (fun vs => K (oneOf vs) st.hp) → resK P fn.results.toList st (fun vs => ∃ h' : Hp, (∀ L, h'.con L = .none ∨ h'.con L = st.hp.con L) ∧ h'.cnt = st.hp.cnt ∧ K (oneOf vs) h') :=
    fun st h => resK_mono h fun vs hv => ⟨st.hp, fun _ => .inr rfl, rfl, hv⟩
  cases ex with
  | exit id => exact hx.elim
  | normal => exact key st hx
  | ret => exact key st hx

theorem lab_ne {L : Lab} {h : Hp} (hl : (h.con L).live) (f s : Nat) : (L = ⟨f, s, h.cnt f s⟩) = False := by
  simp only [eq_iff_iff, iff_false]
  intro hE
  have := h.ok L (by rw [hE]; simp)
  rw [this] at hl
  exact hl
theorem ne_lab {L : Lab} {h : Hp} (hl : (h.con L).live) (f s : Nat) : ((⟨f, s, h.cnt f s⟩ : Lab) = L) = False := by
  simp only [eq_iff_iff, iff_false]
  intro hE
  have := lab_ne hl f s
  rw [← this]; exact hE.symm

theorem eqK_mono {q : EqI} {x y : AV} {K K' : Bool → Prop} (h : eqK q x y K) (hK : ∀ b, K b → K' b) : eqK q x y K' := by
  unfold eqK at h ⊢
  split at h
  all_goals first
    | exact h.elim
    | exact hK _ h
    | exact ⟨h.1, fun e => hK _ (h.2.1 e), hK _ h.2.2⟩
    | exact ⟨h.1, h.2.1, h.2.2.1, h.2.2.2.imp fun b hb => ⟨hb.1, hK _ hb.2⟩⟩
theorem binK_mono {q : EqI} {op : BinOp} {x y : AV} {K K' : AV → Prop} (h : binK q op x y K) (hK : ∀ b, K b → K' b) : binK q op x y K' := by
  by_cases hq : q.yn = false
  · obtain ⟨v, h1, h2⟩ := fn_binK hq _ h
    exact h2 _ (hK _ h1)
  · unfold binK at h ⊢
    split at h
    · split at h
      · exact ⟨h.1, hK _ h.2⟩
      · exact ⟨h.1, hK _ h.2⟩
      · exact ⟨h.1, h.2.1, hK _ h.2.2⟩
      · exact ⟨h.1, h.2.1, hK _ h.2.2⟩
      · exact ⟨h.1, h.2.imp fun v hv => ⟨hv.1, hK _ hv.2⟩⟩
    · split at h
      · exact ⟨h.1, hK _ h.2⟩
      · exact hK _ h
      · exact hK _ h
      · exact h.elim
    · split at h
      · exact eqK_mono h fun b => hK _
      · exact eqK_mono h fun b => hK _
      · exact h.elim
theorem opK_mono {P : Program} {fid : Nat} {o : Oper} {st : St} {K K' : St → Prop} (h : opK P fid o st K) (hK : ∀ s, K s → K' s) : opK P fid o st K' := by
  by_cases hc : (post .plain o || calls .plain o) = true
  · have hg : ∀ {K}, stepT P fid [] .plain { o with guard := none } st K = opK P fid o st K := by intro K; simp [stepT, guardG, opT, opK]
    have := step_mono (P := P) (fid := fid) (ops := []) (tg := .plain) (o := { o with guard := none }) (st := st) (K := K) (K' := K') hc (by rw [hg]; exact h) hK
    rw [hg] at this; exact this
  · unfold opK at h ⊢
    cases hop : o.op <;> rw [hop] at h <;> simp only [hop, post, quiet, qS, qL, qB, pAny, calls, isS, isL, isAl, isMk, isAp, isMe, isSt, isCv, Bool.or_true, Bool.or_false, Bool.false_or, not_true_eq_false] at hc <;> try exact h.elim
    case binOp => exact binK_mono h fun v => hK _
    case call c =>
      obtain ⟨callee, args, ats⟩ := c
      cases callee with
      | value f => simp at hc
      | invoke r m => exact h.elim
      | builtin b =>
        cases b <;> first
          | exact h.elim
          | (simp at hc; done)
          | (simp only [calleeK] at h ⊢
             unfold mmK at h ⊢
             split at h
             · exact hK _ h
             · exact h.elim)
theorem opT_mono {P : Program} {fid : Nat} {tg : Tg} {o : Oper} {st : St} {K K' : St → Prop} (h : opT P fid tg o st K) (hK : ∀ s, K s → K' s) : opT P fid tg o st K' := by
  cases tg with
  | frz =>
    simp only [opT] at h ⊢
    unfold frzO at h ⊢
    split at h
    · unfold frzL at h ⊢
      split at h
      · unfold frzA at h ⊢
        split at h
        · refine ⟨h.1, ?_⟩
          have h2 := h.2
          unfold appendY at h2 ⊢
          split at h2
          · refine ⟨h2.1, ?_⟩
            have h3 := h2.2
            unfold frzX at h3 ⊢
            split at h3
            · exact ⟨h3.1, h3.2.1, h3.2.2.1, hK _ h3.2.2.2⟩
            · exact h3.elim
          · exact h2.elim
        · exact h.elim
      · exact h.elim
    · exact h.elim
  | plain => exact opK_mono h hK
  | blk => exact ⟨h.1, opK_mono h.2 hK⟩
  | avoid ss => exact ⟨h.1, opK_mono h.2 hK⟩
  | mine => exact ⟨h.1, opK_mono h.2 hK⟩
  | pure =>
    simp only [opT] at h ⊢
    unfold pureO at h ⊢
    split at h
    · unfold pureK at h ⊢
      split at h
      · exact ⟨h.1, h.2.imp fun v hv => ⟨hv.1, hK _ hv.2⟩⟩
      · exact h.elim
    · exact h.elim
theorem opsK_mono {P : Program} {fid : Nat} {K K' : St → Prop} (hK : ∀ s, K s → K' s) : ∀ (ops : List Oper) (tg : List Tg) (done : List (Option Nat)) (st : St), opsK P fid tg done ops st K → opsK P fid tg done ops st K' := by
  intro ops
  induction ops with
  | nil => intro tg done st h; exact hK _ h
  | cons o ops ih =>
    intro tg done st h
    simp only [opsK] at h ⊢
    unfold guardG at h ⊢
    split at h
    · exact opT_mono h fun s hs => ih _ _ _ hs
    · unfold guardO at h ⊢
      split at h
      · unfold guardK at h ⊢
        split at h
        · exact ⟨fun e => opT_mono (h.1 e) fun s hs => ih _ _ _ hs, fun e => ih _ _ _ (h.2 e)⟩
        · exact ih _ _ _ h
        · exact h.elim
      · exact h.elim
theorem awp_mono {P : Program} {fid : Nat} {T : Nat → List Tg} : ∀ {c : Code} {Q Q' : Ex → St → Prop} {st : St}, awp P fid T c Q st → (∀ x s, Q x s → Q' x s) → awp P fid T c Q' st := by
  intro c
  induction c with
  | skip => intro Q Q' st h hQ; simp only [awp] at h ⊢; exact hQ _ _ h
  | region id ops dr => intro Q Q' st h hQ; simp only [awp] at h ⊢; exact opsK_mono (fun s => hQ _ s) _ _ _ _ h
  | seq a b iha ihb =>
    intro Q Q' st h hQ
    simp only [awp] at h ⊢
    refine iha h fun x s hs => ?_
    cases x with
    | normal => exact ihb hs hQ
    | exit id => exact hQ _ _ hs
    | ret => exact hQ _ _ hs
  | cond c a b iha ihb =>
    intro Q Q' st h hQ
    simp only [awp] at h ⊢
    unfold condK at h ⊢
    split at h
    · exact ⟨fun e => iha (h.1 e) hQ, fun e => ihb (h.2 e) hQ⟩
    · exact h.elim
  | block id c ih =>
    intro Q Q' st h hQ
    simp only [awp] at h ⊢
    refine ih h fun x s hs => ?_
    cases x with
    | normal => exact hQ _ _ hs
    | exit id' =>
      simp only [blockQ] at hs ⊢
      split at hs
      · rename_i e; rw [if_pos e]; exact hQ _ _ hs
      · rename_i e; rw [if_neg e]; exact hQ _ _ hs
    | ret => exact hQ _ _ hs
  | loop c ih =>
    intro Q Q' st h hQ
    simp only [awp] at h ⊢
    obtain ⟨I, μ, h1, h2⟩ := h
    refine ⟨I, μ, h1, fun s hs => ih (h2 s hs) fun x s' hs' => ?_⟩
    cases x with
    | normal => exact hs'
    | exit id => exact hQ _ _ hs'
    | ret => exact hQ _ _ hs'
  | exit id => intro Q Q' st h hQ; simp only [awp] at h ⊢; exact hQ _ _ h
  | label l => intro Q Q' st h hQ; simp only [awp] at h ⊢; exact hQ _ _ h
  | scope c ih => intro Q Q' st h hQ; simp only [awp] at h ⊢; exact ih h hQ
  | ret => intro Q Q' st h hQ; simp only [awp] at h ⊢; exact hQ _ _ h
  | goto l => intro Q Q' st h hQ; simp only [awp] at h
  | rangeFunc g ps x y _ _ =>
    intro Q Q' st h hQ
    simp only [awp] at h ⊢
    unfold rangeK at h ⊢
    split at h
    · refine ⟨h.1, h.2.mono fun r h' hk => ?_⟩
      unfold endLpC at hk ⊢
      split at hk
      · exact hQ _ _ hk
      · exact hQ _ _ hk
      · exact hQ _ _ hk
      · exact hk.elim
    · exact h.elim
  | refuse why => intro Q Q' st h hQ; simp only [awp] at h
/-- What is known between two parts is said once. -/
theorem awp_cut {P : Program} {fid : Nat} {T : Nat → List Tg} {a b : Code} {Q : Ex → St → Prop} {st : St} (M : St → Prop) (h1 : awp P fid T a (thenQ M Q) st) (h2 : ∀ s, M s → awp P fid T b Q s) : awp P fid T (.seq a b) Q st := by
  simp only [awp]
  refine awp_mono h1 fun x s hs => ?_
  cases x with
  | normal => exact h2 s hs
  | exit id => exact hs
  | ret => exact hs

end Go.T
