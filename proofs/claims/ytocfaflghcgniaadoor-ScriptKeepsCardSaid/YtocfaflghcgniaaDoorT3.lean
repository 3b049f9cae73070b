/- Part of a proof: a small logic of programs over plain values, shown sound for the given machine. -/
import Derived.Test.YtocfaflghcgniaaDoorT2
import Derived.IntWalk
import Derived.Lib.AtoiAll
import Derived.Lib.SlTrimSet
import Derived.Lib.Strings
import Derived.Lib.ItoaNum
import Derived.ChangeArms
import Derived.OpenShut
import Derived.Below
import Derived.SizedLaws
namespace Go.Gh
end Go.Gh
/- Soundness, seventeenth part: code; functions. -/
namespace Go.T
open Go

/-- What is asked of a region: guards stand ahead; slots are there; where the order is drawn, whatever order comes to the same (drawOK). -/
def guardsOK : Nat → List Oper → Bool
  | _, [] => true
  | k, o :: r => (match o.guard with | some (j, _) => decide (j < k) | none => true) && guardsOK (k + 1) r
def dstsOK (n : Nat) (ops : List Oper) : Bool := ops.all fun o => match o.dst with | some d => decide (d < n) | none => true
def okCode (n : Nat) (T : Nat → List Tg) : Code → Bool
  | .region id ops dr => guardsOK 0 ops.toList && dstsOK n ops.toList && (!dr || drawOK ops.toList (T id))
  | .seq a b => okCode n T a && okCode n T b
  | .cond _ a b => okCode n T a && okCode n T b
  | .block _ c => okCode n T c
  | .loop c => okCode n T c
  | .scope c => okCode n T c
  | .rangeFunc _ ps a c => ps.toList.all (fun t => decide (t < n)) && okCode n T a && okCode n T c
  | _ => true

theorem guardsOK_mem : ∀ (ops : List Oper) (k : Nat), guardsOK k ops = true → ∀ i o j b, ops[i]? = some o → o.guard = some (j, b) → j < k + i := by
  intro ops
  induction ops with
  | nil => intro k _ i o j b h; simp at h
  | cons o ops ih =>
    intro k hk i o' j b h1 h2
    simp only [guardsOK, Bool.and_eq_true] at hk
    cases i with
    | zero =>
      simp only [List.getElem?_cons_zero, Option.some.injEq] at h1
      subst h1
      rw [h2] at hk
      simpa using hk.1
    | succ i =>
      have := ih (k + 1) hk.2 i o' j b (by simpa using h1) h2
      omega

theorem dstsOK_mem {n : Nat} {ops : List Oper} (h : dstsOK n ops = true) : ∀ o ∈ ops, ∀ x, o.dst = some x → x < n := by
  intro o ho x hx
  have := List.all_eq_true.1 h o ho
  rw [hx] at this
  simpa using this

section
variable {P : Program} {w0 : World} {B0 : Nat → Prop} {e0 : Env} {h0 : Hp} {n : Nat} {ds : List Deferred}

theorem stepR_scope {b : Frame} {a : Act} {k : List Item} {cs : List Frame} {w : World} {c : Code} : step P (lone (b.atR a (.code (.scope c) :: k)) cs w) = .next (lone (b.atR a (.code c :: .inScope c :: k)) cs w) :=
  step_lone_go (by simp [stepG, stepG.exec, Frame.atR])
theorem stepR_inScope {b : Frame} {a : Act} {k : List Item} {cs : List Frame} {w : World} {c : Code} : step P (lone (b.atR a (.inScope c :: k)) cs w) = .next (lone (b.atR a k) cs w) :=
  step_lone_go (by simp [stepG, stepG.exec, Frame.atR])
theorem wpIn_scope_straight {F : Fence} {m : Nat} {c : Code} {a : Act} {w : World} {Q : Exit → Act → World → Prop} (hq0 : ∀ l a w, ¬ Q (.goto l) a w) (h : c.wpIn F m P Q a w) : (Code.scope c).wpIn F m P Q a w := by
  intro b k cs hro hb hr
  have h0 : (lone (b.atR a (.code (.scope c) :: k)) cs w).fenced P F := fenced_calm hb hr rfl
  obtain ⟨e, a₁, w₁, hq, harr⟩ := h b (.inScope c :: k) cs hro hb hr
  cases e with
  | normal => exact ⟨.normal, a₁, w₁, hq, .head h0 stepR_scope (StepsIn.trans harr (.one (fenced_calm hb hr rfl) stepR_inScope))⟩
  | exit id =>
    have hx : exitTo id (.inScope c :: k) = exitTo id k := by simp [exitTo]
    exact ⟨.exit id, a₁, w₁, hq, fun k' hk => .head h0 stepR_scope (harr.1 k' (by rw [hx]; exact hk)),
      fun hr' hk => let ⟨k₁, h1, h2⟩ := harr.2 hr' (by rw [hx]; exact hk); ⟨k₁, h1, .head h0 stepR_scope h2⟩⟩
  | goto l => exact absurd hq (hq0 l a₁ w₁)
  | ret => exact ⟨_, a₁, w₁, hq, .of_steps (.one h0 stepR_scope) harr⟩
  | panic ch => exact ⟨_, a₁, w₁, hq, .of_steps (.one h0 stepR_scope) harr⟩
  | outgrown => exact ⟨_, a₁, w₁, hq, .of_steps (.one h0 stepR_scope) harr⟩

/-- The machine's side of an abstract postcondition, at code: marks among the deferred calls. -/
def Nd (N : Nat) (w0 : World) (B0 : Nat → Prop) (e0 : Env) (h0 : Hp) (n : Nat) (K : St → Prop) (a : Act) (w : World) : Prop :=
  ∃ st B e, K st ∧ Rel w B e n st a ∧ Ext w0 B0 e0 h0 w B e st.hp ∧ DefOK N w B e st.hp a.defers
def Qd (N : Nat) (w0 : World) (B0 : Nat → Prop) (e0 : Env) (h0 : Hp) (n : Nat) (Q : Ex → St → Prop) (e : Exit) (a : Act) (w : World) : Prop :=
  ∃ x, toEx e = some x ∧ Nd N w0 B0 e0 h0 n (Q x) a w

set_option maxHeartbeats 2000000 in
theorem awp_sound (hm : P.follows .mixedOrders = true) (fid : Nat) (hntm : ntm P fid = n) (T : Nat → List Tg) (r : Option Nat) (N : Nat) (hN : N ≤ w0.heap.size) (hro : ∀ l0, r = some l0 → ∃ r0 : Loop, w0.heap[l0]? = some (.loop r0) ∧ l0 < w0.heap.size ∧ ∀ L, e0.has h0 L → (e0.β L).block ≠ l0) : ∀ (c : Code) (Q : Ex → St → Prop) (st : St) (a : Act) (w : World) (B : Nat → Prop) (e : Env) (m : Nat), okCode n T c = true →
    Rel w B e n st a → Ext w0 B0 e0 h0 w B e st.hp → DefOK N w B e st.hp a.defers → awp P fid T c Q st → c.wpIn (wr r) m P (Qd N w0 B0 e0 h0 n Q) a w := by
  intro c
  induction c with
  | skip =>
    intro Q st a w B e m _ hr hx hds h
    simp only [awp] at h
    exact wpIn_skip ⟨.normal, rfl, st, B, e, h, hr, hx, hds⟩
  | region id ops dr =>
    intro Q st a w B e m hok hr hx hds h
    simp only [okCode, Bool.and_eq_true, Bool.or_eq_true, Bool.not_eq_true'] at hok
    obtain ⟨⟨h1, h2⟩, h3⟩ := hok
    simp only [awp] at h
    have he := opsK_eq (P := P) (fid := fid) (K := Q .normal) (tagAt (T id)) ops.toList [] (T id) st (fun i => by simp) (fun i o j b q1 q2 => by have := guardsOK_mem _ _ h1 i o j b q1 q2; simpa using this)
    simp only [List.map_nil, List.nil_append, List.length_nil] at he
    rw [he] at h
    have h' : runL P fid ops.toList (tagAt (T id)) (List.range ops.size) st (Q .normal) := by rw [List.range_eq_range']; simpa using h
    have fin : ∀ ex a' w', Qm w B e st.hp n a.defers Q ex a' w' → Qd N w0 B0 e0 h0 n Q ex a' w' := by
      rintro ex a' w' ⟨x', hx', st', B', e', g1, g2, g3, g4⟩
      exact ⟨x', hx', st', B', e', g1, g2, hx.trans g3, by rw [g4]; exact hds.ext g3⟩
    cases dr with
    | false => exact wpIn_mono (wpIn_region (runL_sound (Q := Q) (w0 := w) (B0 := B) (e0 := e) (h0 := st.hp) (ds := a.defers) ops (dstsOK_mem h2) r m _ st a w B e hr (Ext.refl _ _ _ _) rfl h')) fin
    | true =>
      have h4 : drawOK ops.toList (T id) = true := by simpa using h3
      exact wpIn_mono (region_draw (w0 := w) (B0 := B) (e0 := e) (h0 := st.hp) (ds := a.defers) hm id ops (dstsOK_mem h2) (T id) h4 r m hr (Ext.refl _ _ _ _) rfl h') fin
  | seq x y ihx ihy =>
    intro Q st a w B e m hok hr hx hds h
    simp only [okCode, Bool.and_eq_true] at hok
    simp only [awp] at h
    refine wpIn_seq (wpIn_mono (ihx _ st a w B e m hok.1 hr hx hds h) ?_)
    rintro ex a' w' ⟨x', hx', hn⟩
    cases ex with
    | normal =>
      simp only [toEx, Option.some.injEq] at hx'
      subst hx'
      obtain ⟨st', B', e', g1, g2, g3, g4⟩ := hn
      exact ihy Q st' a' w' B' e' m hok.2 g2 g3 g4 g1
    | exit id => simp only [toEx, Option.some.injEq] at hx'; subst hx'; exact ⟨_, rfl, hn⟩
    | ret => simp only [toEx, Option.some.injEq] at hx'; subst hx'; exact ⟨_, rfl, hn⟩
    | goto l => simp [toEx] at hx'
    | panic ch => simp [toEx] at hx'
    | outgrown => simp [toEx] at hx'
  | cond c x y ihx ihy =>
    intro Q st a w B e m hok hr hx hds h
    simp only [okCode, Bool.and_eq_true] at hok
    simp only [awp] at h
    unfold condK at h
    split at h
    · rename_i t hc
      have h1 := ev_R hr c
      rw [hc] at h1
      have h1 := R_bool h1
      exact wpIn_cond_split h1 (fun ht => ihx Q st a w B e m hok.1 hr hx hds (h.1 ht)) (fun ht => ihy Q st a w B e m hok.2 hr hx hds (h.2 ht))
    · exact h.elim
  | block id c ih =>
    intro Q st a w B e m hok hr hx hds h
    simp only [okCode] at hok
    simp only [awp] at h
    refine wpIn_block (wpIn_mono (ih _ st a w B e m hok hr hx hds h) ?_)
    rintro ex a' w' ⟨x', hx', hn⟩
    cases ex with
    | normal => simp only [toEx, Option.some.injEq] at hx'; subst hx'; exact ⟨_, rfl, hn⟩
    | exit id' =>
      simp only [toEx, Option.some.injEq] at hx'; subst hx'
      show if id' = id then Qd N w0 B0 e0 h0 n Q .normal a' w' else Qd N w0 B0 e0 h0 n Q (.exit id') a' w'
      have hbq : blockQ id Q (.exit id') = fun s => if id' = id then Q .normal s else Q (.exit id') s := by funext s; simp [blockQ]
      rw [hbq] at hn
      split
      · rename_i hid
        simp only [hid, if_true] at hn
        exact ⟨.normal, rfl, hn⟩
      · rename_i hid
        simp only [hid, if_false] at hn
        exact ⟨.exit id', rfl, hn⟩
    | ret => simp only [toEx, Option.some.injEq] at hx'; subst hx'; exact ⟨_, rfl, hn⟩
    | goto l => simp [toEx] at hx'
    | panic ch => simp [toEx] at hx'
    | outgrown => simp [toEx] at hx'
  | loop c ih =>
    intro Q st a w B e m hok hr hx hds h
    simp only [okCode] at hok
    simp only [awp] at h
    obtain ⟨I, μ, h1, h2⟩ := h
    let J : Nat → Act → World → Prop := fun j a w => ∃ st B e, I st ∧ μ st = j ∧ Rel w B e n st a ∧ Ext w0 B0 e0 h0 w B e st.hp ∧ DefOK N w B e st.hp a.defers
    have hex : ∀ a w, (∃ j, J j a w) → ∃ j, J j a w ∧ ∀ i, i < j → ¬ J i a w := by
      intro a w ⟨j, hj⟩
      induction j using Nat.strongRecOn with
      | _ j ihj =>
        by_cases hi : ∃ i, i < j ∧ J i a w
        · obtain ⟨i, h1, h2⟩ := hi; exact ihj i h1 h2
        · exact ⟨j, hj, fun i h1 h2 => hi ⟨i, h1, h2⟩⟩
    let M : Act → World → Nat := fun a w => (Classical.epsilon fun j => J j a w ∧ ∀ i, i < j → ¬ J i a w)
    have hM : ∀ a w, (∃ j, J j a w) → J (M a w) a w ∧ ∀ i, i < M a w → ¬ J i a w := fun a w h => Classical.epsilon_spec (hex a w h)
    refine wpIn_loop (fun a w => ∃ j, J j a w) M ⟨μ st, st, B, e, h1, rfl, hr, hx, hds⟩ ?_
    intro a₁ w₁ hJ
    obtain ⟨⟨st₁, B₁, e₁, g1, g2, g3, g4, g5⟩, _⟩ := hM a₁ w₁ hJ
    refine wpIn_mono (ih _ st₁ a₁ w₁ B₁ e₁ m hok g3 g4 g5 (h2 st₁ g1)) ?_
    rintro ex a' w' ⟨x', hx', hn⟩
    cases ex with
    | normal =>
      simp only [toEx, Option.some.injEq] at hx'
      subst hx'
      obtain ⟨st', B', e', ⟨q1, q2⟩, q3, q4, q5⟩ := hn
      have hJ' : J (μ st') a' w' := ⟨st', B', e', q1, rfl, q3, q4, q5⟩
      refine ⟨⟨_, hJ'⟩, ?_⟩
      have hmin := (hM a' w' ⟨_, hJ'⟩).2
      have : M a' w' ≤ μ st' := by
        rcases Nat.lt_or_ge (μ st') (M a' w') with h | h
        · exact absurd hJ' (hmin _ h)
        · exact h
      rw [g2] at q2
      omega
    | exit id => simp only [toEx, Option.some.injEq] at hx'; subst hx'; exact ⟨_, rfl, hn⟩
    | ret => simp only [toEx, Option.some.injEq] at hx'; subst hx'; exact ⟨_, rfl, hn⟩
    | goto l => simp [toEx] at hx'
    | panic ch => simp [toEx] at hx'
    | outgrown => simp [toEx] at hx'
  | exit id =>
    intro Q st a w B e m _ hr hx hds h
    simp only [awp] at h
    exact wpIn_exit ⟨_, rfl, st, B, e, h, hr, hx, hds⟩
  | label l =>
    intro Q st a w B e m _ hr hx hds h
    simp only [awp] at h
    exact wpIn_label ⟨.normal, rfl, st, B, e, h, hr, hx, hds⟩
  | scope c ih =>
    intro Q st a w B e m hok hr hx hds h
    simp only [okCode] at hok
    simp only [awp] at h
    exact wpIn_scope_straight (fun l a w hq => by obtain ⟨x, hx, _⟩ := hq; simp [toEx] at hx) (ih Q st a w B e m hok hr hx hds h)
  | ret =>
    intro Q st a w B e m _ hr hx hds h
    simp only [awp] at h
    exact wpIn_ret ⟨.ret, rfl, st, B, e, h, hr, hx, hds⟩
  | goto l => intro Q st a w B e m _ _ _ _ h; simp [awp] at h
  | rangeFunc g ps asg body _ _ =>
    intro Q st a w B e m hok hr hx hds h
    simp only [awp] at h
    unfold rangeK at h
    split at h
    · rename_i gf caps hg
      obtain ⟨hb, hcall⟩ := h
      have h1 := ev_R hr g
      rw [hg] at h1
      obtain ⟨vs, h2, h3, h4⟩ := R_fn h1
      refine wpIn_rangeFunc ?_
      intro fn _
      -- the record is laid
      obtain ⟨l, mark, W1, rec, q1, q2, q3, q4, q5, q6, q7, q8, q9, q10, q11, q12⟩ : ∃ (l : Nat) (mark : List Deferred) (W0 : World) (rec : Loop), (Instr.enterLoop fn a.tmps ps asg body (wr r).round).run P w = .ok (l, mark) (W0.alloc (.loop rec)) ∧ W0.heap.size = l ∧
          HRel W0 B e st.hp ∧ Ext w B e st.hp W0 B e st.hp ∧ rec.state = .ready ∧ rec.pending = none ∧ rec.params = ps ∧ rec.assign = asg ∧ rec.body = body ∧ rec.tmps = a.tmps ∧ DefOK N W0 B e st.hp (mark ++ a.defers) ∧ True := by
        cases r with
        | none =>
          refine ⟨w.heap.size + 1, _, w.alloc (.deferred (some [])), _, run_enterLoop_outer _ _ _ _ _, by simp, hr.hp.push _, Ext.push _, rfl, rfl, rfl, rfl, rfl, rfl, ?_, trivial⟩
          obtain ⟨Ds, k1, k2, k3⟩ := hds.ext (Ext.push (w := w) (B := B) (e := e) (h := st.hp) (.deferred (some [])))
          obtain ⟨Ds', k1', _, k3'⟩ := hds
          have hinj : Ds' = Ds := by
            have := k1'.symm.trans k1
            exact (List.map_inj_right (fun x y hxy => by injection hxy with h1 _; injection h1)).1 this
          subst hinj
          refine ⟨w.heap.size :: Ds', by rw [k1]; rfl, List.nodup_cons.2 ⟨fun hin => ?_, k2⟩, fun D hD => ?_⟩
          · have := (k3' _ hin).2.2.1; omega
          · rcases List.mem_cons.1 hD with rfl | hD
            · refine ⟨Nat.le_trans hN hx.size, fun hbb => by have := hr.hp.bnd _ hbb; omega, by simp, World.alloc_heap_new _ _, fun L hL hE => ?_⟩
              have := (hr.hp.lt hL).1
              omega
            · exact k3 D hD
        | some l0 =>
          obtain ⟨r0, z1, z2, z3⟩ := hro l0 rfl
          obtain ⟨z4, z5, z6⟩ := unowned_ext hx z2 z3
          exact ⟨w.heap.size, [], w, _, run_enterLoop_inner (z5.trans z1) _ _ _ _ _, rfl, hr.hp, Ext.refl _ _ _ _, rfl, rfl, rfl, rfl, rfl, rfl, hds, trivial⟩
      subst q2
      have hrunb : ∀ w', (invoke (.fn (.func gf) vs) #[.func (.yield W1.heap.size) #[] #[]]).run P w' = .ok (.enter gf (#[.func (.yield W1.heap.size) #[] #[]] ++ vs)) w' := by
        intro w'
        unfold hasBody at hb
        split at hb
        · rename_i fn' hfn
          simp only [Bool.and_eq_true, bne_iff_ne, ne_eq] at hb
          obtain ⟨bd, hbd⟩ := Option.isSome_iff_exists.1 hb.1
          simp [invoke, callFunc, hfn, hb.2, hbd]
        · cases hb
      let W2 := W1.alloc (.loop rec)
      let L := st.hp.fresh fid lpSlot
      let c1 : Con := .lp st.slots (ntm P fid) ps.toList asg body .ready
      let e1 := e.upd L ⟨W1.heap.size, 0, .none⟩ undef
      have xa : Ext W1 B e st.hp W2 B e1 (st.hp.alloc fid lpSlot c1) := Ext.alloc fid lpSlot c1 (.loop rec) ⟨W1.heap.size, 0, .none⟩ undef W2 rfl rfl rfl rfl (fun _ h => h) (fun _ h => .inl h) rfl
      have hβ : (e1.β L).block = W1.heap.size := by simp [e1, Env.upd]
      have ha : HRel W2 B e1 (st.hp.alloc fid lpSlot c1) := HRel.alloc q3 fid lpSlot c1 (.loop rec) ⟨W1.heap.size, 0, .none⟩ undef W2 rfl rfl rfl rfl (fun _ h => h) (fun _ h => .inl h) rfl (by
        refine ⟨?_, rec, ?_, by rw [q7], q8, q9, by rw [q10, hr.size, hntm], fun i => ?_, q5, q6⟩
        · show ¬ B (e1.β L).block
          rw [hβ]; intro hbb
          have := q3.bnd _ hbb; omega
        · show W2.heap[(e1.β L).block]? = _
          rw [hβ]; exact World.alloc_heap_new _ _
        · rw [q10]; exact ((hr.slots i).ext hr.hp q4).ext q3 xa)
      have hLk : L.k < (st.hp.alloc fid lpSlot c1).cnt L.f L.s := by simp [L, Hp.fresh, Hp.alloc]
      have hyl : R W2 B (e1.E (st.hp.alloc fid lpSlot c1)) (.yl L) (.func (.yield W1.heap.size) #[] #[]) := .ref _ _ ⟨hLk, by rw [hβ]⟩
      refine ⟨W1.heap.size, mark, W2, { target := .fn (.func gf) vs, args := #[.func (.yield W1.heap.size) #[] #[]] }, W2, gf, #[.func (.yield W1.heap.size) #[] #[]] ++ vs, W2, q1, ?_, fun _ _ => trivial, hrunb W2, fun hh => by simp [wr, Fence.wide] at hh, ?_⟩
      · simp only [resolve, h2]
        simp [go_sem]
        trace_state
      · have hargs : ∀ i, i < (AV.yl (st.hp.fresh fid lpSlot) :: caps).length → R W2 B (e1.E (st.hp.alloc fid lpSlot c1)) ((AV.yl (st.hp.fresh fid lpSlot) :: caps).getD i .un) ((#[Value.func (.yield W1.heap.size) #[] #[]] ++ vs).getD i undef) := by
          intro i hi
          cases i with
          | zero =>
            have e0' : (#[Value.func (.yield W1.heap.size) #[] #[]] ++ vs).getD 0 undef = Value.func (.yield W1.heap.size) #[] #[] := by
              simp only [Array.getD_eq_getD_getElem?]
              rw [Array.getElem?_append_left (by simp)]
              simp
            rw [e0']; exact hyl
          | succ i =>
            have hj : i < caps.length := by simpa using hi
            have e1' : (AV.yl (st.hp.fresh fid lpSlot) :: caps).getD (i + 1) .un = caps.getD i .undef := by
              simp [hj]
            have e2' : (#[Value.func (.yield W1.heap.size) #[] #[]] ++ vs).getD (i + 1) undef = vs.getD i undef := by
              have : i < vs.size := by omega
              simp only [Array.getD_eq_getD_getElem?]
              rw [Array.getElem?_append_right (by simp)]
              simp
            rw [e1', e2']
            exact ((h4 i hj).ext hr.hp q4).ext q3 xa
        have hsz : (#[Value.func (.yield W1.heap.size) #[] #[]] ++ vs).size = (AV.yl (st.hp.fresh fid lpSlot) :: caps).length := by simp [h3]; omega
        have hcc := hcall W2 B e1 _ ha hsz hargs
        refine calls_in r _ (Calls.mono hcc fun en w3 hR => ?_)
        obtain ⟨v, rr, h', B', e', rfl, g2, g3, g4, g5⟩ := hR
        have hLk' : L.k < h'.cnt L.f L.s := Nat.lt_of_lt_of_le hLk (g3.cnt _ _)
        have hβ' : (e'.β L).block = W1.heap.size := by rw [(g3.env L hLk).1]; exact hβ
        have xw : Ext w B e st.hp w3 B' e' h' := (q4.trans xa).trans g3
        have hdx : DefOK N w3 B' e' h' (mark ++ a.defers) := q11.ext (xa.trans g3)
        have hs3 : ∀ i, R w3 B' (e'.E h') (st.slots i) (a.tmps.getD i undef) := fun i => (hr.slots i).ext hr.hp xw
        have hcon := g2.con L hLk'
        unfold endLpC at g5
        have hend : ∀ (x : Ex) (jump : Option Code) (rec' : Loop), e'.has h' L → w3.heap[W1.heap.size]? = some (.loop rec') → rec'.state ≠ .busy → rec'.pending = jump → Q x ⟨st.slots, h'.set L .none⟩ →
            (match x with | .normal => jump = none | x => jump = some (exC x)) → rangePost (wr r) m P W1.heap.size (Qd N w0 B0 e0 h0 n Q) { a with defers := mark ++ a.defers } (.returned v) w3 := by
          intro x jump rec' hL hrow hst hpend hQ hx'
          refine ⟨jump, _, by rw [← hpend]; exact run_endLoop hrow hst, ?_⟩
          obtain ⟨p1, p2⟩ := putDrop g2 hL (.loop { rec' with state := .exhausted })
          rw [hβ'] at p1 p2
          have hrel : Rel (w3.putObj W1.heap.size (.loop { rec' with state := .exhausted })) B' e' n ⟨st.slots, h'.set L .none⟩ { a with defers := mark ++ a.defers } :=
            ⟨p1, fun i => (hs3 i).ext g2 p2, hr.size⟩
          have hnd : ∀ x', toEx x' = some x → Qd N w0 B0 e0 h0 n Q x' { a with defers := mark ++ a.defers } (w3.putObj W1.heap.size (.loop { rec' with state := .exhausted })) := fun x' hx'' =>
            ⟨x, hx'', ⟨st.slots, h'.set L .none⟩, B', e', hQ, hrel, (hx.trans xw).trans p2, hdx.ext p2⟩
          cases x with
          | normal => simp only at hx'; subst hx'; exact hnd .normal rfl
          | exit id => simp only at hx'; subst hx'; exact wpIn_exit (hnd (.exit id) rfl)
          | ret => simp only at hx'; subst hx'; exact wpIn_ret (hnd .ret rfl)
        split at g5
        · rename_i sl' n' ps' aas' bd' hcc
          rw [show h'.con L = _ from hcc] at hcon
          obtain ⟨_, rec', k1, _, _, _, _, _, k2, k3⟩ := hcon
          rw [hβ'] at k1
          exact hend .normal none rec' ⟨hLk', by rw [show h'.con L = _ from hcc]; trivial⟩ k1 (by rw [k2]; simp) k3 g5 rfl
        · rename_i sl' n' ps' aas' bd' id hcc
          rw [show h'.con L = _ from hcc] at hcon
          obtain ⟨_, rec', k1, _, _, _, _, _, k2, k3⟩ := hcon
          rw [hβ'] at k1
          exact hend (.exit id) (some (exC (.exit id))) rec' ⟨hLk', by rw [show h'.con L = _ from hcc]; trivial⟩ k1 (by rw [k2]; simp) k3 g5 rfl
        · rename_i sl' n' ps' aas' bd' hcc
          rw [show h'.con L = _ from hcc] at hcon
          obtain ⟨_, rec', k1, _, _, _, _, _, k2, k3⟩ := hcon
          rw [hβ'] at k1
          exact hend .ret (some (exC .ret)) rec' ⟨hLk', by rw [show h'.con L = _ from hcc]; trivial⟩ k1 (by rw [k2]; simp) k3 g5 rfl
        · exact g5.elim
    · exact h.elim
  | refuse why => intro Q st a w B e m _ _ _ _ h; simp [awp] at h

theorem resK_sound (tmps : Array Value) {w : World} {B : Nat → Prop} {e : Env} {st : St} (hr : HRel w B e st.hp) (hs : ∀ i, R w B (e.E st.hp) (st.slots i) (tmps.getD i undef)) : ∀ (rs : List ResultVar) (K : List AV → Prop), resK P rs st K →
    ∃ (vs : List Value) (avs : List AV), (rs.mapM (fun | .tmp t => pure (tmps.getD t undef) | .cell a t => do loadVar t (← asAddr (tmps.getD a undef)) : ResultVar → Sem Value)).run P w = .ok vs w ∧ vs.length = avs.length ∧
      (∀ j, j < avs.length → R w B (e.E st.hp) (avs.getD j .undef) (vs.getD j undef)) ∧ K avs := by
  intro rs
  induction rs with
  | nil => intro K h; exact ⟨[], [], by simp, rfl, fun j hj => by simp at hj, h⟩
  | cons x rs ih =>
    intro K h
    cases x with
    | tmp t =>
      simp only [resK] at h
      obtain ⟨vs, avs, h1, h2, h3, h4⟩ := ih _ h
      refine ⟨tmps.getD t undef :: vs, st.slots t :: avs, ?_, by simp [h2], fun j hj => ?_, h4⟩
      · rw [List.mapM_cons, Sem.run_bind]
        simp only [Sem.run_pure, Result.andThen_ok, Sem.run_bind, h1]
      · cases j with
        | zero => simpa using hs t
        | succ j => simpa using h3 j (by simpa using hj)
    | cell a t =>
      simp only [resK] at h
      obtain ⟨ht, h⟩ := h
      obtain ⟨v, av, g1, g2, g3⟩ := loadK_sound (P := P) hr ht (hs a) h
      obtain ⟨vs, avs, h1, h2, h3, h4⟩ := ih _ g3
      have hp : ∃ p, tmps.getD a undef = .pointer (some p) := by
        unfold loadK at h
        split at h
        · rename_i hsl
          have := hs a; rw [hsl] at this
          obtain ⟨b, off, _, hv, _⟩ := R_ip this
          exact ⟨_, hv⟩
        · rename_i hsl
          have := hs a; rw [hsl] at this
          obtain ⟨_, ⟨p, hv⟩, _⟩ := R_pt this
          exact ⟨p, hv⟩
        · exact h.elim
      obtain ⟨p, hp⟩ := hp
      have g1' : (loadVar t p).run P w = .ok v w := by
        rw [hp] at g1
        simpa [Instr.loadAt, Instr.sureAddr] using g1
      refine ⟨v :: vs, av :: avs, ?_, by simp [h2], fun j hj => ?_, h4⟩
      · rw [List.mapM_cons, Sem.run_bind]
        have : (do loadVar t (← asAddr (tmps.getD a undef)) : Sem Value).run P w = .ok v w := by
          rw [hp]; simp [asAddr, g1']
        rw [this]
        simp only [Result.andThen_ok, Sem.run_bind, h1, Sem.run_pure]
      · cases j with
        | zero => simpa using g2
        | succ j => simpa using h3 j (by simpa using hj)

/-- The marks are come to, one by one; then the results. -/
theorem leave_sound {fn : Func} {K : AV → Hp → Prop} {tmps : Array Value} {w0 : World} {B0 : Nat → Prop} {e0 : Env} {h0 : Hp} (m : Nat) {B : Nat → Prop} {e : Env} {st : St}
    (hend : resK P fn.results.toList st (fun vs => ∃ h : Hp, (∀ L, h.con L = .none ∨ h.con L = st.hp.con L) ∧ h.cnt = st.hp.cnt ∧ K (oneOf vs) h)) : ∀ (Ds : List Nat) (w : World), Ds.Nodup → HRel w B e st.hp → (∀ i, R w B (e.E st.hp) (st.slots i) (tmps.getD i undef)) → Ext w0 B0 e0 h0 w B e st.hp →
    (∀ D ∈ Ds, w0.heap.size ≤ D ∧ ¬ B D ∧ D < w.heap.size ∧ w.heap[D]? = some (.deferred (some [])) ∧ ∀ L, e.has st.hp L → (e.β L).block ≠ D) →
    LeavesInM (wr none) m P fn tmps (fun en w' => ∃ v₁ r h' B' e', en = .returned v₁ ∧ HRel w' B' e' h' ∧ Ext w0 B0 e0 h0 w' B' e' h' ∧ R w' B' (e'.E h') r v₁ ∧ K r h') (Ds.map (fun D => { target := .collected D, args := #[] })) .returning w := by
  intro Ds
  induction Ds with
  | nil =>
    intro w _ hh hs hx _
    obtain ⟨vs', avs, q1, q2, q3, h', q4, q6, q5⟩ := resK_sound tmps hh hs _ _ hend
    have hxd := Ext.drop (w := w) (B := B) (e := e) q4 q6
    refine ⟨if h : vs'.length = 1 then vs'[0] else .tuple vs'.toArray, ?_, _, oneOf avs, h', B, e, rfl, HRel.drop hh q4 q6, hx.trans hxd, ?_, q5⟩
    · have hm : (fn.results.mapM (fun | .tmp t => pure (tmps.getD t undef) | .cell a t => do loadVar t (← asAddr (tmps.getD a undef)) : ResultVar → Sem Value)).run P w = .ok vs'.toArray w := by
        cases hres : fn.results with
        | mk l =>
          rw [hres] at q1
          rw [List.mapM_toArray, Sem.run_map, q1]
          rfl
      unfold results
      rw [Sem.run_bind]
      refine (congrArg (fun r : Result (Array Value) => r.andThen fun a w' => Sem.run P (pure (if h : a.size = 1 then a[0] else Value.tuple a)) w') hm).trans ?_
      simp
    · split
      · rename_i h1
        obtain ⟨v0, rfl⟩ := List.length_eq_one_iff.1 h1
        obtain ⟨av0, rfl⟩ := List.length_eq_one_iff.1 (q2.symm.trans h1)
        have := q3 0 (by simp)
        simp only [List.getD_cons_zero] at this
        exact (by simpa [oneOf] using this : R _ _ _ _ _).ext hh hxd
      · rename_i h1
        have : oneOf avs = .tup avs := by
          match avs, q2 with
          | [], _ => rfl
          | [x], q2 => exact absurd q2 h1
          | x :: y :: r, _ => rfl
        rw [this]
        refine .tup _ _ (by simp [q2]) (fun j hj => ?_)
        have := (q3 j hj).ext hh hxd
        simpa using this
  | cons D Ds ih =>
    intro w hnd hh hs hx hD
    obtain ⟨g0, gb, g1, g2, g3⟩ := hD D (by simp)
    have hnd' := List.nodup_cons.1 hnd
    refine ⟨by simp, .inl ⟨D, w.putObj D (.deferred none), rfl, run_takeDeferred g2, ?_⟩⟩
    have hother : ∀ b, (B b ∨ ∃ L, e.has st.hp L ∧ (e.β L).block = b) → (w.putObj D (.deferred none)).heap[b]? = w.heap[b]? := by
      rintro b (hb | ⟨L, hL, rfl⟩)
      · exact World.putObj_heap_other (fun hE => gb (hE ▸ hb))
      · exact World.putObj_heap_other (g3 L hL)
    refine ih _ hnd'.2 (hh.free (by simp) hother) (fun i => (hs i).mono (fun b hb => hother b (.inl hb)) (fun _ h => h) (fun _ _ h => h)) ?_ (fun D' hD' => ?_)
    · exact ⟨by simpa using hx.size, hx.os, hx.tape, hx.output, hx.bsub, hx.bnew, fun b hb ho => by rw [World.putObj_heap_other (by omega)]; exact hx.keep b hb ho, hx.onew, hx.cnt, hx.env, hx.live⟩
    · obtain ⟨k0, kb, k1, k2, k3⟩ := hD D' (by simp [hD'])
      have hne : D' ≠ D := fun hE => hnd'.1 (hE ▸ hD')
      exact ⟨k0, kb, by simpa using k1, by rw [World.putObj_heap_other hne]; exact k2, k3⟩

/-- **A function's contract out of the abstract run of its body.** -/
theorem CallK.of_awp' (hm : P.follows .mixedOrders = true) (T : Nat → List Tg) {f : FuncId} {fn : Func} {c : Code} {args : List AV} {h : Hp} {K : AV → Hp → Prop} (hf : P.funcs[f]? = some fn) (hb : fn.body = some c) (hok : okCode fn.ntmps T c = true)
    (hl : args.length ≤ fn.ntmps) {Q : Ex → St → Prop} (hQ : ∀ x st, Q x st → endK P fn K x st) (hk : awp P f T c Q (enter args h)) : CallK P f args h K := by
  intro w B e vs hh hs hargs
  refine (callsIn_wide (n := 0)).1 ?_
  refine callsIn_of_wp_marks hf hb trivial ?_ rfl
  have hrel : Rel w B e fn.ntmps (enter args h) { tmps := vs ++ Array.replicate (fn.ntmps - vs.size) undef, defers := [] } := by
    refine ⟨hh, fun i => ?_, by simp; omega⟩
    simp only [enter]
    by_cases hi : i < args.length
    · have e2 : (vs ++ Array.replicate (fn.ntmps - vs.size) undef).getD i undef = vs.getD i undef := by
        simp only [Array.getD_eq_getD_getElem?]
        rw [Array.getElem?_append_left (by omega)]
      rw [e2]
      exact hargs i hi
    · have e1 : args.getD i .un = .un := by rw [List.getD_eq_getElem?_getD, List.getElem?_eq_none (by omega)]; rfl
      have e2 : (vs ++ Array.replicate (fn.ntmps - vs.size) undef).getD i undef = undef := by
        simp only [Array.getD_eq_getD_getElem?]
        rw [Array.getElem?_append_right (by omega)]
        by_cases hi2 : i - vs.size < fn.ntmps - vs.size
        · simp [hi2]
        · simp [hi2]
      rw [e1, e2]; exact .un
  have hntm : ntm P f = fn.ntmps := by unfold ntm; rw [hf]
  have main := awp_sound (w0 := w) (B0 := B) (e0 := e) (h0 := h) (n := fn.ntmps) hm f hntm T none w.heap.size (Nat.le_refl _) (fun l0 hl0 => by simp at hl0) c _ _ _ w B e 0 hok hrel (Ext.refl w B e h) (DefOK.nil _ _ _ _ _) hk
  refine wpIn_mono main ?_
  rintro ex a' w' ⟨x', hx', st', B', e', g1, g2, g3, Ds, d1, d2, d3⟩
  have fin : ∀ x', endK P fn K x' st' → LeavesInM (wr none) 0 P fn a'.tmps (fun en w' => ∃ v₁ r h' B' e', en = .returned v₁ ∧ HRel w' B' e' h' ∧ Ext w B e h w' B' e' h' ∧ R w' B' (e'.E h') r v₁ ∧ K r h') a'.defers .returning w' := by
    intro x' hend
    have hend' : resK P fn.results.toList st' (fun vs => ∃ h : Hp, (∀ L, h.con L = .none ∨ h.con L = st'.hp.con L) ∧ h.cnt = st'.hp.cnt ∧ K (oneOf vs) h) := by
      cases x' with
      | normal => exact hend
      | exit id => exact hend.elim
      | ret => exact hend
    rw [d1]
    exact leave_sound 0 hend' Ds w' d2 g2.hp g2.slots g3 d3
  cases ex with
  | normal =>
    simp only [toEx, Option.some.injEq] at hx'; subst hx'
    exact fin _ (hQ _ _ g1)
  | ret =>
    simp only [toEx, Option.some.injEq] at hx'; subst hx'
    exact fin _ (hQ _ _ g1)
  | exit id =>
    simp only [toEx, Option.some.injEq] at hx'; subst hx'
    exact (hQ _ _ g1).elim
  | goto l => simp [toEx] at hx'
  | panic ch => simp [toEx] at hx'
  | outgrown => simp [toEx] at hx'

theorem resK_mono : ∀ {rs : List ResultVar} {st : St} {K K' : List AV → Prop}, resK P rs st K → (∀ v, K v → K' v) → resK P rs st K' := by
  intro rs
  induction rs with
  | nil => intro st K K' h hk; exact hk _ h
  | cons x rs ih =>
    intro st K K' h hk
    cases x with
    | tmp t => simp only [resK] at h ⊢; exact ih h (fun v hv => hk _ hv)
    | cell a t =>
      simp only [resK] at h ⊢
      obtain ⟨v, h1, h2⟩ := fn_loadK _ h.2
      exact ⟨h.1, h2 _ (ih h1 (fun v hv => hk _ hv))⟩

end

end Go.T
/- Pure functions: the heap behind the call is the heap ahead of it. -/
namespace Go.T
open Go

mutual
/-- No label stands in the value. -/
def AV.lf : AV → Bool
  | .l _ _ xs => AV.lfs xs
  | .ip cs => AV.lfs cs
  | .agg cs => AV.lfs cs
  | .tup cs => AV.lfs cs
  | .fn _ cs => AV.lfs cs
  | .pt _ _ _ _ => false
  | .os _ => false
  | .sl _ _ _ _ => false
  | .mr _ => false
  | .yl _ => false
  | _ => true
def AV.lfs : List AV → Bool
  | [] => true
  | x :: xs => AV.lf x && AV.lfs xs
end

theorem lfs_iff : ∀ {xs : List AV}, AV.lfs xs = true ↔ ∀ x ∈ xs, x.lf = true := by
  intro xs
  induction xs with
  | nil => simp [AV.lfs]
  | cons x xs ih => simp [AV.lfs, ih]

theorem lfs_getD {xs : List AV} (h : AV.lfs xs = true) (j : Nat) : (xs.getD j .undef).lf = true := by
  rcases Nat.lt_or_ge j xs.length with hj | hj
  · have : xs.getD j .undef = xs[j] := by simp [hj]
    rw [this]
    exact lfs_iff.1 h _ (List.getElem_mem hj)
  · rw [List.getD_eq_getElem?_getD, List.getElem?_eq_none hj]
    simp [AV.lf]

theorem lf_cells {x : AV} (h : x.lf = true) : AV.lfs x.cells = true := by
  unfold AV.cells
  split
  · simpa [AV.lf] using h
  · simp [AV.lfs, h]

theorem R.lf {w : World} {B : Nat → Prop} {e : Env} {h : Hp} {E' : AV → Value → Prop} {a : AV} {v : Value} (hR : R w B (e.E h) a v) (hl : a.lf = true) : R w B E' a v := by
  induction hR with
  | undef v => exact .undef v
  | un => exact .un
  | int k n => exact .int k n
  | bool b => exact .bool b
  | str s => exact .str s
  | nilp => exact .nilp
  | nilf => exact .nilf
  | nilm => exact .nilm
  | l0 ex sz a c hx => exact .l0 ex sz a c hx
  | l ex sz xs b off cap vs h1 h2 h3 h4 h5 h6 _ h8 ih =>
    simp only [AV.lf] at hl
    exact .l ex sz xs b off cap vs h1 h2 h3 h4 h5 h6 (fun i j hi hj => ih i j hi hj (lfs_getD (lf_cells (lfs_iff.1 hl _ (List.getElem_mem hi))) j)) h8
  | ip cs b off vs h1 h2 _ ih => exact .ip cs b off vs h1 h2 (fun j hj => ih j hj (lfs_getD (by simpa [AV.lf] using hl) j))
  | agg cs vs h1 _ ih => exact .agg cs vs h1 (fun j hj => ih j hj (lfs_getD (by simpa [AV.lf] using hl) j))
  | tup cs vs h1 _ ih => exact .tup cs vs h1 (fun j hj => ih j hj (lfs_getD (by simpa [AV.lf] using hl) j))
  | fn f cs vs h1 _ ih => exact .fn f cs vs h1 (fun j hj => ih j hj (lfs_getD (by simpa [AV.lf] using hl) j))
  | ref a v hr =>
    cases a <;> first | exact hr.elim | (simp [AV.lf] at hl)

/-- **A function that leaves what it found, and whose answer bears no label, leaves the heap aas it was.** -/
theorem CallK.pure {P : Program} {f : Nat} {args : List AV} {h : Hp} {K : AV → Prop} (hc : CallK P f args h (fun r h' => r.lf = true ∧ (∀ L, h.con L = .none ∨ h'.con L = h.con L) ∧ K r)) :
    CallK P f args h (fun r h' => K r ∧ h' = h) := by
  intro w B e vs h1 h2 h3
  refine (hc w B e vs h1 h2 h3).mono ?_
  rintro en w' ⟨v, r, h', B', e', rfl, g2, g3, g4, g5, g6, g7⟩
  exact ⟨v, r, h, B', e', rfl, h1.back g2 g3 g6, g3.back g6, g4.lf g5, g7, rfl⟩

theorem PureF.use {P : Program} {f : FuncId} {args : List AV} {r : AV} (hp : PureF P f args r) {h : Hp} {K : AV → Hp → Prop} (hk : K r h) : CallK P f args h K :=
  (hp h).mono fun _ _ ⟨h1, h2⟩ => by rw [h1, h2]; exact hk

/-- What was found is aas it was. -/
def Keeps (h H : Hp) : Prop := ∀ L, h.con L = .none ∨ H.con L = h.con L
theorem Keeps.refl (h : Hp) : Keeps h h := fun _ => .inr rfl
theorem Keeps.alloc {h H : Hp} (k : Keeps h H) (f s : Nat) (c : Con) : Keeps h (H.alloc f s c) := by
  intro L
  by_cases hE : L = H.fresh f s
  · have h1 := H.ok (H.fresh f s) (by simp [Hp.fresh])
    rcases k L with h2 | h2
    · exact .inl h2
    · rw [hE, h1] at h2
      rw [hE]; exact .inl h2.symm
  · rcases k L with h2 | h2
    · exact .inl h2
    · right; rw [← h2]; exact if_neg hE
theorem Keeps.set {h H : Hp} (k : Keeps h H) {L : Lab} (hL : h.con L = .none) (c : Con) : Keeps h (H.set L c) := by
  intro M
  by_cases hE : M = L
  · rw [hE]; exact .inl hL
  · rcases k M with h2 | h2
    · exact .inl h2
    · right; rw [← h2]; exact if_neg hE
theorem Keeps.new {h H : Hp} (k : Keeps h H) (f s : Nat) : h.con ⟨f, s, H.cnt f s⟩ = .none := by
  rcases k ⟨f, s, H.cnt f s⟩ with h2 | h2
  · exact h2
  · rw [← h2]; exact H.ok _ (by simp)
/-- The end of a pure function that answers r. -/
def endP (P : Program) (fn : Func) (r : AV) (h : Hp) : Ex → St → Prop
  | .exit _, _ => False
  | _, st => resK P fn.results.toList st (fun vs => oneOf vs = r) ∧ Keeps h st.hp

theorem PureAt.of_awp {P : Program} (hm : P.follows .mixedOrders = true) (T : Nat → List Tg) {f : FuncId} {fn : Func} {c : Code} {args : List AV} {h : Hp} {r : AV} (hf : P.funcs[f]? = some fn) (hb : fn.body = some c) (hok : okCode fn.ntmps T c = true)
    (hl : args.length ≤ fn.ntmps) (hlf : r.lf = true) (hk : awp P f T c (endP P fn r h) (enter args h)) : CallK P f args h (fun r' h' => r' = r ∧ h' = h) := by
  have hQ : ∀ ex st, endP P fn r h ex st → endK P fn (fun r' h' => r' = r ∧ Keeps h h') ex st := by
    have key : ∀ st, (resK P fn.results.toList st (fun vs => oneOf vs = r) ∧ Keeps h st.hp) → resK P fn.results.toList st (fun vs => ∃ h' : Hp, (∀ L, h'.con L = .none ∨ h'.con L = st.hp.con L) ∧ h'.cnt = st.hp.cnt ∧ oneOf vs = r ∧ Keeps h h') := by
      rintro st ⟨h1, h2⟩
      exact resK_mono h1 fun vs hv => ⟨st.hp, fun _ => .inr rfl, rfl, hv, h2⟩
    intro ex st hx
    cases ex with
    | exit id => exact hx.elim
    | normal => exact key st hx
    | ret => exact key st hx
  refine CallK.pure ((CallK.of_awp' hm T hf hb hok hl hQ hk).mono ?_)
  rintro r' h' ⟨rfl, h2⟩
  exact ⟨hlf, h2, rfl⟩

theorem PureF.of_awp {P : Program} (hm : P.follows .mixedOrders = true) (T : Nat → List Tg) {f : FuncId} {fn : Func} {c : Code} {args : List AV} {r : AV} (hf : P.funcs[f]? = some fn) (hb : fn.body = some c) (hok : okCode fn.ntmps T c = true)
    (hl : args.length ≤ fn.ntmps) (hlf : r.lf = true) (hk : ∀ h, awp P f T c (endP P fn r h) (enter args h)) : PureF P f args r :=
  fun h => PureAt.of_awp hm T hf hb hok hl hlf (hk h)

/-- The end of a function that leaves the heap aas it stands. -/
def endH (P : Program) (fn : Func) (K : AV → Hp → Prop) : Ex → St → Prop
  | .exit _, _ => False
  | _, st => resK P fn.results.toList st (fun vs => K (oneOf vs) st.hp)
theorem CallK.of_awpH {P : Program} (hm : P.follows .mixedOrders = true) (T : Nat → List Tg) {f : FuncId} {fn : Func} {c : Code} {args : List AV} {h : Hp} {K : AV → Hp → Prop} (hf : P.funcs[f]? = some fn) (hb : fn.body = some c) (hok : okCode fn.ntmps T c = true)
    (hl : args.length ≤ fn.ntmps) (hk : awp P f T c (endH P fn K) (enter args h)) : CallK P f args h K := by
  refine CallK.of_awp' hm T hf hb hok hl (fun ex st hx => ?_) hk
  have key : ∀ st, resK P fn.results.toList st (fun vs => K (oneOf vs) st.hp) → resK P fn.results.toList st (fun vs => ∃ h' : Hp, (∀ L, h'.con L = .none ∨ h'.con L = st.hp.con L) ∧ h'.cnt = st.hp.cnt ∧ K (oneOf vs) h') :=
    fun st h => resK_mono h fun vs hv => ⟨st.hp, fun _ => .inr rfl, rfl, hv⟩
  cases ex with
  | exit id => exact hx.elim
  | normal => exact key st hx
  | ret => exact key st hx

theorem eqK_mono {q : EqI} {x y : AV} {K K' : Bool → Prop} (h : eqK q x y K) (hK : ∀ b, K b → K' b) : eqK q x y K' := by
  unfold eqK at h ⊢
  split at h
  all_goals first
    | exact h.elim
    | exact hK _ h
    | exact ⟨h.1, fun e => hK _ (h.2.1 e), hK _ h.2.2⟩
    | exact ⟨h.1, h.2.1, h.2.2.1, h.2.2.2.imp fun b hb => ⟨hb.1, hK _ hb.2⟩⟩
theorem binK_mono {q : EqI} {op : BinOp} {x y : AV} {K K' : AV → Prop} (h : binK q op x y K) (hK : ∀ b, K b → K' b) : binK q op x y K' := by
  by_cases hq : q.yn = false
  · obtain ⟨v, h1, h2⟩ := fn_binK hq _ h
    exact h2 _ (hK _ h1)
  · unfold binK at h ⊢
    split at h
    · split at h
      · exact ⟨h.1, hK _ h.2⟩
      · exact ⟨h.1, hK _ h.2⟩
      · exact ⟨h.1, h.2.1, hK _ h.2.2⟩
      · exact ⟨h.1, h.2.1, hK _ h.2.2⟩
      · exact ⟨h.1, h.2.imp fun v hv => ⟨hv.1, hK _ hv.2⟩⟩
    · split at h
      · exact ⟨h.1, hK _ h.2⟩
      · exact hK _ h
      · exact hK _ h
      · exact h.elim
    · split at h
      · exact eqK_mono h fun b => hK _
      · exact eqK_mono h fun b => hK _
      · exact h.elim
theorem opK_mono {P : Program} {fid : Nat} {o : Oper} {st : St} {K K' : St → Prop} (h : opK P fid o st K) (hK : ∀ s, K s → K' s) : opK P fid o st K' := by
  by_cases hc : (post .plain o || calls .plain o) = true
  · have hg : ∀ {K}, stepT P fid [] .plain { o with guard := none } st K = opK P fid o st K := by intro K; simp [stepT, guardG, opT, opK]
    have := step_mono (P := P) (fid := fid) (ops := []) (tg := .plain) (o := { o with guard := none }) (st := st) (K := K) (K' := K') hc (by rw [hg]; exact h) hK
    rw [hg] at this; exact this
  · unfold opK at h ⊢
    cases hop : o.op <;> rw [hop] at h <;> simp only [hop, post, quiet, qS, qL, qB, pAny, calls, isS, isL, isAl, isMk, isAp, isMe, isSt, isCv, Bool.or_true, Bool.or_false, Bool.false_or, not_true_eq_false] at hc <;> try exact h.elim
    case binOp => exact binK_mono h fun v => hK _
    case call c =>
      obtain ⟨callee, args, ats⟩ := c
      cases callee with
      | value f => simp at hc
      | invoke r m => exact h.elim
      | builtin b =>
        cases b <;> first
          | exact h.elim
          | (simp at hc; done)
          | (simp only [calleeK] at h ⊢
             unfold mmK at h ⊢
             split at h
             · exact hK _ h
             · exact h.elim)
theorem btsX_mono {h : Hp} {f s : Nat} {e : TypeId} {k : TK} {x : AV} {bs : List UInt8} {K K' : AV → Hp → Prop} (hk : btsX h f s e k x bs K) (hK : ∀ v H, K v H → K' v H) : btsX h f s e k x bs K' := by
  unfold btsX at hk ⊢
  split at hk
  · exact ⟨hk.1, hk.2.1, hK _ _ hk.2.2⟩
  · unfold btsC at hk ⊢
    split at hk
    · exact ⟨hk.1, hk.2.1, hk.2.2.1, hK _ _ hk.2.2.2⟩
    · exact hk.elim
  · exact hk.elim
theorem btsL_mono {P : Program} {f s : Nat} {h : Hp} {args : List AV} {ats : List TypeId} {K K' : AV → Hp → Prop} (hk : btsL P f s h args ats K) (hK : ∀ v H, K v H → K' v H) : btsL P f s h args ats K' := by
  unfold btsL at hk ⊢
  split at hk
  · refine ⟨hk.1, ?_⟩
    have h2 := hk.2
    unfold btsA at h2 ⊢
    split at h2
    · refine ⟨h2.1, ?_⟩
      have h3 := h2.2
      unfold btsY at h3 ⊢
      split at h3
      · exact btsX_mono h3 hK
      · obtain ⟨b, hb, h4⟩ := h3
        exact ⟨b, hb, btsX_mono h4 hK⟩
      · exact h3.elim
    · exact h2.elim
  · exact hk.elim
theorem opT_mono {P : Program} {fid : Nat} {tg : Tg} {o : Oper} {st : St} {K K' : St → Prop} (h : opT P fid tg o st K) (hK : ∀ s, K s → K' s) : opT P fid tg o st K' := by
  cases tg with
  | frz =>
    simp only [opT] at h ⊢
    unfold frzO at h ⊢
    split at h
    · unfold frzL at h ⊢
      split at h
      · unfold frzA at h ⊢
        split at h
        · refine ⟨h.1, ?_⟩
          have h2 := h.2
          unfold appendY at h2 ⊢
          split at h2
          · refine ⟨h2.1, ?_⟩
            have h3 := h2.2
            unfold frzX at h3 ⊢
            split at h3
            · exact ⟨h3.1, h3.2.1, h3.2.2.1, hK _ h3.2.2.2⟩
            · exact h3.elim
          · exact h2.elim
        · exact h.elim
      · exact h.elim
    · exact h.elim
  | bts =>
    simp only [opT] at h ⊢
    unfold btsO at h ⊢
    split at h
    · exact btsL_mono h fun v H => hK _
    · exact h.elim
  | plain => exact opK_mono h hK
  | blk => exact ⟨h.1, opK_mono h.2 hK⟩
  | avoid ss => exact ⟨h.1, opK_mono h.2 hK⟩
  | mine => exact ⟨h.1, opK_mono h.2 hK⟩
  | pure =>
    simp only [opT] at h ⊢
    unfold pureO at h ⊢
    split at h
    · unfold pureK at h ⊢
      split at h
      · exact ⟨h.1, h.2.imp fun v hv => ⟨hv.1, hK _ hv.2⟩⟩
      · exact h.elim
    · exact h.elim
theorem opsK_mono {P : Program} {fid : Nat} {K K' : St → Prop} (hK : ∀ s, K s → K' s) : ∀ (ops : List Oper) (tg : List Tg) (done : List (Option Nat)) (st : St), opsK P fid tg done ops st K → opsK P fid tg done ops st K' := by
  intro ops
  induction ops with
  | nil => intro tg done st h; exact hK _ h
  | cons o ops ih =>
    intro tg done st h
    simp only [opsK] at h ⊢
    unfold guardG at h ⊢
    split at h
    · exact opT_mono h fun s hs => ih _ _ _ hs
    · unfold guardO at h ⊢
      split at h
      · unfold guardK at h ⊢
        split at h
        · exact ⟨fun e => opT_mono (h.1 e) fun s hs => ih _ _ _ hs, fun e => ih _ _ _ (h.2 e)⟩
        · exact ih _ _ _ h
        · exact h.elim
      · exact h.elim
theorem awp_mono {P : Program} {fid : Nat} {T : Nat → List Tg} : ∀ {c : Code} {Q Q' : Ex → St → Prop} {st : St}, awp P fid T c Q st → (∀ x s, Q x s → Q' x s) → awp P fid T c Q' st := by
  intro c
  induction c with
  | skip => intro Q Q' st h hQ; simp only [awp] at h ⊢; exact hQ _ _ h
  | region id ops dr => intro Q Q' st h hQ; simp only [awp] at h ⊢; exact opsK_mono (fun s => hQ _ s) _ _ _ _ h
  | seq a b iha ihb =>
    intro Q Q' st h hQ
    simp only [awp] at h ⊢
    refine iha h fun x s hs => ?_
    cases x with
    | normal => exact ihb hs hQ
    | exit id => exact hQ _ _ hs
    | ret => exact hQ _ _ hs
  | cond c a b iha ihb =>
    intro Q Q' st h hQ
    simp only [awp] at h ⊢
    unfold condK at h ⊢
    split at h
    · exact ⟨fun e => iha (h.1 e) hQ, fun e => ihb (h.2 e) hQ⟩
    · exact h.elim
  | block id c ih =>
    intro Q Q' st h hQ
    simp only [awp] at h ⊢
    refine ih h fun x s hs => ?_
    cases x with
    | normal => exact hQ _ _ hs
    | exit id' =>
      simp only [blockQ] at hs ⊢
      split at hs
      · rename_i e; rw [if_pos e]; exact hQ _ _ hs
      · rename_i e; rw [if_neg e]; exact hQ _ _ hs
    | ret => exact hQ _ _ hs
  | loop c ih =>
    intro Q Q' st h hQ
    simp only [awp] at h ⊢
    obtain ⟨I, μ, h1, h2⟩ := h
    refine ⟨I, μ, h1, fun s hs => ih (h2 s hs) fun x s' hs' => ?_⟩
    cases x with
    | normal => exact hs'
    | exit id => exact hQ _ _ hs'
    | ret => exact hQ _ _ hs'
  | exit id => intro Q Q' st h hQ; simp only [awp] at h ⊢; exact hQ _ _ h
  | label l => intro Q Q' st h hQ; simp only [awp] at h ⊢; exact hQ _ _ h
  | scope c ih => intro Q Q' st h hQ; simp only [awp] at h ⊢; exact ih h hQ
  | ret => intro Q Q' st h hQ; simp only [awp] at h ⊢; exact hQ _ _ h
  | goto l => intro Q Q' st h hQ; simp only [awp] at h
  | rangeFunc g ps x y _ _ =>
    intro Q Q' st h hQ
    simp only [awp] at h ⊢
    unfold rangeK at h ⊢
    split at h
    · refine ⟨h.1, h.2.mono fun r h' hk => ?_⟩
      unfold endLpC at hk ⊢
      split at hk
      · exact hQ _ _ hk
      · exact hQ _ _ hk
      · exact hQ _ _ hk
      · exact hk.elim
    · exact h.elim
  | refuse why => intro Q Q' st h hQ; simp only [awp] at h
/-- What is known between two parts is said once. -/
theorem awp_cut {P : Program} {fid : Nat} {T : Nat → List Tg} {a b : Code} {Q : Ex → St → Prop} {st : St} (M : St → Prop) (h1 : awp P fid T a (thenQ M Q) st) (h2 : ∀ s, M s → awp P fid T b Q s) : awp P fid T (.seq a b) Q st := by
  simp only [awp]
  refine awp_mono h1 fun x s hs => ?_
  cases x with
  | normal => exact h2 s hs
  | exit id => exact hs
  | ret => exact hs

end Go.T
/- The rules by which simp runs the abstract semantics. None is a definitional equation for simp: each is a rewrite of its own. -/
namespace Go.T
open Go

/- What follows a call or a map's reading, kept from simp: an argument whose type hangs on it holds it fast. -/
structure Tok {α : Type} (K : α) : Type where
def CallX (P : Program) (f : FuncId) (args : List AV) (h : Hp) (K : AV → Hp → Prop) (_ : Tok K) : Prop := CallK P f args h K
def PureX (P : Program) (f : FuncId) (args : List AV) (K : AV → Prop) (_ : Tok K) : Prop := ∃ v, PureF P f args v ∧ K v
def LookX (cs : List AV) (es : List (AV × AV × Nat)) (ok : Bool) (z : AV) (K : AV → Prop) (_ : Tok K) : Prop := ∃ r, findM cs es 0 = some r ∧ lookR es ok z r K
def EntryX (h : Hp) (L : Lab) (es : List (AV × AV × Nat)) (ck : Nat) (z : AV) (cs : List AV) (K : AV → Hp → Prop) (_ : Tok K) : Prop := ∃ r, findM cs es 0 = some r ∧ entryR h L es ck z cs r K
def StoreX (h : Hp) (L : Lab) (es : List (AV × AV × Nat)) (ck : Nat) (v : AV) (b : Int) (K : Hp → Prop) (_ : Tok K) : Prop := estoreR h L es ck v (findB b es 0) K
theorem CallX.of {P : Program} {f : FuncId} {args : List AV} {h : Hp} {K : AV → Hp → Prop} {u : Tok K} (hc : CallK P f args h K) : CallX P f args h K u := hc
theorem CallX.pure {P : Program} {f : FuncId} {args : List AV} {h : Hp} {K : AV → Hp → Prop} {u : Tok K} {r : AV} (hp : PureF P f args r) (hk : K r h) : CallX P f args h K u := hp.use hk
theorem PureX.of {P : Program} {f : FuncId} {args : List AV} {K : AV → Prop} {u : Tok K} {r : AV} (hp : PureF P f args r) (hk : K r) : PureX P f args K u := ⟨r, hp, hk⟩
theorem LookX.of {cs : List AV} {es : List (AV × AV × Nat)} {ok : Bool} {z : AV} {K : AV → Prop} {u : Tok K} {r : Option Nat} (h : findM cs es 0 = some r) (hk : lookR es ok z r K) : LookX cs es ok z K u := ⟨r, h, hk⟩
theorem EntryX.of {h : Hp} {L : Lab} {es : List (AV × AV × Nat)} {ck : Nat} {z : AV} {cs : List AV} {K : AV → Hp → Prop} {u : Tok K} {r : Option Nat} (hf : findM cs es 0 = some r) (hk : entryR h L es ck z cs r K) : EntryX h L es ck z cs K u := ⟨r, hf, hk⟩
theorem StoreX.of {h : Hp} {L : Lab} {es : List (AV × AV × Nat)} {ck : Nat} {v : AV} {b : Int} {K : Hp → Prop} {u : Tok K} {r : Option Nat} (hf : findB b es 0 = r) (hk : estoreR h L es ck v r K) : StoreX h L es ck v b K u := by subst hf; exact hk

/- Values are reckoned before they are laid down. -/
def letK (v : AV) (K : AV → Prop) : Prop := K v
def letL (v : List AV) (K : List AV → Prop) : Prop := K v
def hid (h : Hp) : Hp := h
def letH (h : Hp) (K : Hp → Prop) : Prop := K h
@[go_sem] theorem letK_eq {v K} : letK v K = K v := propext Iff.rfl
@[go_sem] theorem letL_eq {v K} : letL v K = K v := propext Iff.rfl
@[go_sem] theorem letH_eq {v K} : letH v K = K v := propext Iff.rfl
@[go_sem] theorem hid_eq {h} : hid h = h := by simp [hid]
@[congr] theorem letK_congr {v v' : AV} {K : AV → Prop} (e : v = v') : letK v K = letK v' K := by subst e; rfl
@[congr] theorem letL_congr {v v' : List AV} {K : List AV → Prop} (e : v = v') : letL v K = letL v' K := by subst e; rfl
@[congr] theorem letH_congr {v v' : Hp} {K : Hp → Prop} (e : v = v') : letH v K = letH v' K := by subst e; rfl

def sucN (n : Nat) : Nat := n + 1
def hidN (n : Nat) : Nat := n
def selO (b : Bool) (v w : Option Nat) : Option Nat := if b then v else w
/-- The slot of the j-th of the n operations ahead, of which the last stands first. -/
def nthR : List (Option Nat) → Nat → Nat → Option Nat
  | [], _, _ => .none
  | d :: r, n, j => selO (j + 1 == n) d (nthR r (n - 1) j)
theorem nthR_eq : ∀ (done : List (Option Nat)) (j : Nat), nthR done done.length j = done.reverse.getD j .none := by
  intro done
  induction done with
  | nil => intro j; simp [nthR]
  | cons d r ih =>
    intro j
    simp only [nthR, List.length_cons, Nat.add_sub_cancel, ih, List.reverse_cons, selO]
    by_cases hj : j = r.length
    · subst hj; simp
    · have h1 : ¬ (j + 1 == r.length + 1) = true := by simpa using hj
      rw [if_neg h1]
      rcases Nat.lt_or_ge j r.length with hl | hl
      · simp [List.getElem?_append_left, hl]
      · have : r.length < j := by omega
        simp [List.getD_eq_getElem?_getD, List.getElem?_append_right, hl]
        have h2 : ∃ m, j - r.length = m + 1 := ⟨j - r.length - 1, by omega⟩
        obtain ⟨m, hm⟩ := h2
        rw [hm]; simp
/-- A region's operations, one behind the other: for simp: 'done' stands backwards, and how many they are stands beside. -/
def opsR (P : Program) (fid : Nat) : List Tg → Nat → List (Option Nat) → List Oper → St → (St → Prop) → Prop
  | _, _, _, [], st, K => K st
  | tg, n, done, o :: r, st, K =>
    guardG o.guard
      (opT P fid (headT tg) o st (fun st' => opsR P fid (tailT tg) (n + 1) (o.dst :: done) r st' K))
      (fun j want => guardO (nthR done n j) fun d => guardK (st.slots d) want
        (opT P fid (headT tg) o (st.put (some d) (.bool want)) (fun st' => opsR P fid (tailT tg) (n + 1) (o.dst :: done) r st' K))
        (opsR P fid (tailT tg) (n + 1) (o.dst :: done) r ((st.put (some d) (.bool (!want))).put o.dst .un) K)
        (opsR P fid (tailT tg) (n + 1) (o.dst :: done) r (st.put o.dst .un) K))
theorem opsR_eq {P : Program} {fid : Nat} {K : St → Prop} {l : List Oper} : ∀ {tg : List Tg} (done : List (Option Nat)) (n : Nat) {st : St} (_ : n = done.length), opsK P fid tg done.reverse l st K = opsR P fid tg n done l st K := by
  induction l with
  | nil => intro tg done n st _; simp [opsK, opsR]
  | cons o r ih =>
    intro tg done n st hn
    have e : ∀ st', opsK P fid (tailT tg) (done.reverse ++ [o.dst]) r st' K = opsR P fid (tailT tg) (n + 1) (o.dst :: done) r st' K := fun st' => by
      rw [← ih (o.dst :: done) (n + 1) (by simp [hn])]; simp
    have e2 : nthR done n = fun j => done.reverse.getD j .none := by funext j; rw [hn, nthR_eq]
    simp only [opsK, opsR, e, e2]

section ops
variable {P : Program} {fid : Nat} {d : Option Nat} {ty : TypeId} {ps : String} {af : Array Edge} {g : Option (Nat × Bool)} {st : St} {K : St → Prop}
attribute [go_sem] put_none put_hp withHp_slots withHp_hp
def sel (b : Bool) (v w : AV) : AV := if b then v else w
@[go_sem ↓, go_sem] theorem sel_t {v w} : sel true v w = v := by simp [sel]
@[go_sem ↓, go_sem] theorem sel_f {v w} : sel false v w = w := by simp [sel]
@[congr] theorem sel_congr {b b' : Bool} {v w : AV} (e : b = b') : sel b v w = sel b' v w := by subst e; rfl
@[go_sem ↓, go_sem] theorem put_slots' (st : St) (d : Nat) (v : AV) (m : Nat) : (st.put (some d) v).slots m = sel (m == d) v (st.slots m) := by rw [put_slots]; simp [sel]
@[go_sem ↓, go_sem] theorem opK_move {x} : opK P fid ⟨d, .move x, ty, ps, af, g⟩ st K = letK (st.ev x) (fun v => K (st.put d v)) := propext Iff.rfl
@[go_sem ↓, go_sem] theorem opK_assign {x} : opK P fid ⟨d, .assign x, ty, ps, af, g⟩ st K = letK (st.ev x) (fun v => K (st.put d v)) := propext Iff.rfl
@[go_sem ↓, go_sem] theorem pickK_t {a b K} : pickK (.bool true) a b K = K a := propext Iff.rfl
@[go_sem ↓, go_sem] theorem pickK_f {a b K} : pickK (.bool false) a b K = K b := propext Iff.rfl
@[go_sem ↓, go_sem] theorem opK_pick {c a b} : opK P fid ⟨d, .pick c a b, ty, ps, af, g⟩ st K = pickK (st.ev c) (st.ev a) (st.ev b) (fun v => K (st.put d v)) := propext Iff.rfl
@[go_sem ↓, go_sem] theorem opK_alloc {t} : opK P fid ⟨d, .alloc t, ty, ps, af, g⟩ st K =
  (tok P t = true ∧ letH (hid st.hp) (fun H => K ((st.withHp (H.alloc fid (d.getD 0) (newC P t (tzero P t).cells))).put d (.pt (H.fresh fid (d.getD 0)) 0 0 0)))) := propext Iff.rfl
@[go_sem ↓, go_sem] theorem opK_box {t x} : opK P fid ⟨d, .box t x, ty, ps, af, g⟩ st K =
  boxK (st.ev x) (fun cs => letH (hid st.hp) (fun H => K ((st.withHp (H.alloc fid (d.getD 0) (.blk cs))).put d (.pt (H.fresh fid (d.getD 0)) 0 0 0)))) := propext Iff.rfl
@[go_sem ↓, go_sem] theorem opK_load {t a} : opK P fid ⟨d, .load t a, ty, ps, af, g⟩ st K = (tin P t = true ∧ loadK st.hp (tk P t).agg (tsz P t) (st.ev a) (fun v => K (st.put d v))) := propext Iff.rfl
@[go_sem ↓, go_sem] theorem opK_store {t a x} : opK P fid ⟨d, .store t a x, ty, ps, af, g⟩ st K = (tin P t = true ∧ storeK st.hp (tsz P t) (st.ev a) (st.ev x) (fun h => K ((st.withHp h).put d .un))) := propext Iff.rfl
@[go_sem ↓, go_sem] theorem opK_binOp {op xt x y yt} : opK P fid ⟨d, .binOp op xt x y yt, ty, ps, af, g⟩ st K = binK (EqI.mk' P xt y) op (st.ev x) (st.ev y) (fun v => K (st.put d v)) := propext Iff.rfl
@[go_sem ↓, go_sem] theorem opK_unOp {op xt x} : opK P fid ⟨d, .unOp op xt x, ty, ps, af, g⟩ st K = unK op (st.ev x) (fun v => K (st.put d v)) := propext Iff.rfl
@[go_sem ↓, go_sem] theorem opK_makeFunc {fn first caps} : opK P fid ⟨d, .makeFunc fn first caps, ty, ps, af, g⟩ st K = (first.isEmpty = true ∧ letL (caps.toList.map st.ev) (fun vs => K (st.put d (.fn fn vs)))) := propext Iff.rfl
@[go_sem ↓, go_sem] theorem fieldAddrO_some {off n t a K} : fieldAddrO (some (off, n, t)) a K = fieldAddrK off a K := propext Iff.rfl
@[go_sem ↓, go_sem] theorem opK_fieldAddr {s x f} : opK P fid ⟨d, .fieldAddr s x f, ty, ps, af, g⟩ st K = fieldAddrO (fof P s f) (st.ev x) (fun v => K (st.put d v)) := propext Iff.rfl
@[go_sem ↓, go_sem] theorem indexAddrO_s {e h x ix K} : indexAddrO P (.slice e) h x ix K = (tin P e = true ∧ 0 < tsz P e ∧ indexAddrK h .none (tsz P e) x ix K) := propext Iff.rfl
@[go_sem ↓, go_sem] theorem opK_indexAddr {t x ix} : opK P fid ⟨d, .indexAddr t x ix, ty, ps, af, g⟩ st K = indexAddrO P (tk P t) st.hp (st.ev x) (st.ev ix) (fun v => K (st.put d v)) := propext Iff.rfl
@[go_sem ↓, go_sem] theorem callV_fn {gg caps args h K} : callV P (.fn (.func gg) caps) args h K = (hasBody P gg = true ∧ CallX P gg (args ++ caps) h K ⟨⟩) := propext Iff.rfl
@[go_sem ↓, go_sem] theorem opK_call {f args ats} : opK P fid ⟨d, .call ⟨.value f, args, ats⟩, ty, ps, af, g⟩ st K = callV P (st.ev f) (args.toList.map st.ev) st.hp (fun r h => K ((st.withHp h).put d r)) := propext Iff.rfl
@[go_sem ↓, go_sem] theorem lenO_s {e h x K} : lenO (.slice e) h x K = lenK h x K := propext Iff.rfl
@[go_sem ↓, go_sem] theorem lenO_str {h x K} : lenO .string h x K = lenSK x K := propext Iff.rfl
@[go_sem ↓, go_sem] theorem opK_len {x t} : opK P fid ⟨d, .call ⟨.builtin .len, #[x], #[t]⟩, ty, ps, af, g⟩ st K = lenO (tk P t) st.hp (st.ev x) (fun v => K (st.put d v)) := propext Iff.rfl
@[go_sem ↓, go_sem] theorem opK_build {t parts} : opK P fid ⟨d, .build t parts, ty, ps, af, g⟩ st K = buildK P (tk P t) t st.ev parts.toList (fun v => K (st.put d v)) := propext Iff.rfl
@[go_sem ↓, go_sem] theorem opK_buildSlice {t n parts} : opK P fid ⟨d, .buildSlice t n parts, ty, ps, af, g⟩ st K = buildSliceK P (tk P t) n st.ev parts.toList (fun v => K (st.put d v)) := propext Iff.rfl
@[go_sem ↓, go_sem] theorem opK_nilCheck {x} : opK P fid ⟨d, .nilCheck x, ty, ps, af, g⟩ st K = nilCheckK (st.ev x) (fun v => K (st.put d v)) := propext Iff.rfl
@[go_sem ↓, go_sem] theorem opK_extract {x i} : opK P fid ⟨d, .extract x i, ty, ps, af, g⟩ st K = extractK (st.ev x) i (fun v => K (st.put d v)) := propext Iff.rfl
@[go_sem ↓, go_sem] theorem opK_index {t x ix} : opK P fid ⟨d, .index t x ix, ty, ps, af, g⟩ st K = indexO P (tk P t) (st.ev x) (st.ev ix) (fun v => K (st.put d v)) := propext Iff.rfl
def appendA (P : Program) (fid s : Nat) (ats : List TypeId) (args : List AV) (h : Hp) (K : AV → Hp → Prop) : Prop := match args, ats with
    | [x, y], [t, u] => appendO P (tk P t) (tk P u) h fid s x y K
    | _, _ => False
@[go_sem ↓, go_sem] theorem appendA_eq {fid s t u x y h} {K : AV → Hp → Prop} : appendA P fid s [t, u] [x, y] h K = appendO P (tk P t) (tk P u) h fid s x y K := propext Iff.rfl
@[go_sem ↓, go_sem] theorem opK_append {args ats} : opK P fid ⟨d, .call ⟨.builtin .append, args, ats⟩, ty, ps, af, g⟩ st K = appendA P fid (d.getD 0) ats.toList (args.toList.map st.ev) st.hp (fun r h => K ((st.withHp h).put d r)) := propext Iff.rfl
@[go_sem ↓, go_sem] theorem appendO_s {e u h f s x y} {K : AV → Hp → Prop} : appendO P (.slice e) (.slice u) h f s x y K = (tok P e = true ∧ appendK h f s (tsz P e) (tbytes P e) x y K) := propext Iff.rfl
@[go_sem ↓, go_sem] theorem appendK_eq {h f s sz bytes x y} {K : AV → Hp → Prop} : appendK h f s sz bytes x y K = appendY (elemsOf h y) sz (fun ys => appendX h f s sz bytes x ys K) := propext Iff.rfl
@[go_sem ↓, go_sem] theorem appendY_s {sz' ys sz} {K : List AV → Prop} : appendY (some (sz', ys)) sz K = ((ys ≠ [] → sz' = sz) ∧ K ys) := propext Iff.rfl
@[go_sem] theorem elemsOf_l {h a b c} : elemsOf h (.l a b c) = some (b, c) := by simp [elemsOf]
@[go_sem ↓, go_sem] theorem appendX_l {h f s sz bytes a ys} {K : AV → Hp → Prop} : appendX h f s sz bytes (.l true a []) ys K = (ys.length * bytes ≤ 2 ^ 47 ∧ ys.length < 2 ^ 62 ∧ 0 < bytes ∧ K (.os (h.fresh f s)) (h.alloc f s (.arr sz ys))) := propext Iff.rfl
@[go_sem ↓, go_sem] theorem appendX_os {h f s sz bytes L ys} {K : AV → Hp → Prop} : appendX h f s sz bytes (.os L) ys K = appendC (h.con L) h L f s sz bytes ys K := propext Iff.rfl
@[go_sem ↓, go_sem] theorem appendC_arr {h L f s sz bytes sz' xs ys} {K : AV → Hp → Prop} : appendC (.arr sz' xs) h L f s sz bytes ys K = (sz' = sz ∧ (xs.length + ys.length) * bytes ≤ 2 ^ 47 ∧ xs.length + ys.length < 2 ^ 62 ∧ 0 < bytes ∧
      K (.os (h.fresh f s)) ((h.set L .none).alloc f s (.arr sz (xs ++ ys)))) := propext Iff.rfl
@[go_sem ↓, go_sem] theorem buildSliceK_s {k n ev parts} {K : AV → Prop} : buildSliceK P (.slice k) n ev parts K = (tok P k = true ∧ 0 < tsz P k ∧ inOrder 0 parts = true ∧ parts.length = n ∧ n * tsz P k ≤ 2 ^ 24 ∧
        partsK (tsz P k) (parts.map (fun p => ev p.2)) ∧ letL (parts.map (fun p => ev p.2)) (fun vs => K (.l true (tsz P k) vs))) := propext Iff.rfl
@[go_sem ↓, go_sem] theorem buildK_s {t ev parts} {K : AV → Prop} : buildK P .struct t ev parts K = (tok P t = true ∧ fsIn P t = true ∧ fillK (fun i => (fof P t i).map fun x => (x.1, x.2.1)) (tzero P t).cells ev parts (fun cs => K (.agg cs))) := propext Iff.rfl
@[go_sem ↓, go_sem] theorem fillK_nil {place cs ev} {K : List AV → Prop} : fillK place cs ev [] K = K cs := by simp [fillK]
def fillP (p : Option (Nat × Nat)) (cs : List AV) (x : AV) (K : List AV → Prop) : Prop := match p with
    | some (off, n) => x.cells.length = n ∧ x.cells.all AV.isCell = true ∧ off + n ≤ cs.length ∧ K (setRange cs off x.cells)
    | .none => False
@[go_sem ↓, go_sem] theorem fillP_s {off n cs x} {K : List AV → Prop} : fillP (some (off, n)) cs x K = (x.cells.length = n ∧ x.cells.all AV.isCell = true ∧ off + n ≤ cs.length ∧ K (setRange cs off x.cells)) := propext Iff.rfl
@[go_sem ↓, go_sem] theorem fillK_cons {place cs ev i x r} {K : List AV → Prop} : fillK place cs ev ((i, x) :: r) K = fillP (place i) cs (ev x) (fun cs => fillK place cs ev r K) := by
  simp only [fillK, fillP]
  cases place i <;> rfl
@[go_sem] theorem inOrder_nil {k} : inOrder k [] = true := by simp [inOrder]
@[go_sem] theorem inOrder_cons {k i x r} : inOrder k ((i, x) :: r) = ((i == k) && inOrder (k + 1) r) := by simp [inOrder]
@[go_sem] theorem partsK_nil {n} : partsK n [] = True := by simp [partsK]
@[go_sem] theorem partsK_cons {n x r} : partsK n (x :: r) = (x.cells.length = n ∧ x.cells.all AV.isCell = true ∧ partsK n r) := propext Iff.rfl
@[go_sem ↓, go_sem] theorem extractK_t {vs i} {K : AV → Prop} : extractK (.tup vs) i K = (i < vs.length ∧ K (vs.getD i .undef)) := by
  simp only [extractK, eq_iff_iff]
  constructor
  · rintro ⟨hi, hk⟩; exact ⟨hi, by rw [List.getD_eq_getElem?_getD, List.getElem?_eq_getElem hi]; exact hk⟩
  · rintro ⟨hi, hk⟩; exact ⟨hi, by rw [List.getD_eq_getElem?_getD, List.getElem?_eq_getElem hi] at hk; exact hk⟩
@[go_sem ↓, go_sem] theorem nilCheckK_pt {L a b c} {K : AV → Prop} : nilCheckK (.pt L a b c) K = K (.pt L a b c) := propext Iff.rfl
end ops

@[go_sem] theorem ev_tmp {st : St} {t} : st.ev (.tmp t) = st.slots t := by simp [St.ev]
@[go_sem] theorem ev_const {st : St} {v} : st.ev (.const v) = AV.ofVal v := by simp [St.ev]
@[go_sem] theorem ev_func {st : St} {f} : st.ev (.func f) = .fn (.func f) [] := by simp [St.ev]
@[go_sem] theorem ofVal_int {k n} : AV.ofVal (.int k n) = .int k n := by simp [AV.ofVal]
@[go_sem] theorem ofVal_bool {b} : AV.ofVal (.bool b) = .bool b := by simp [AV.ofVal]
/-- A string, as the list of its bytes. -/
def strV (l : List UInt8) : AV := .str ⟨l.toArray⟩
theorem strV_eq (s : ByteArray) : AV.str s = strV s.data.toList := by simp [strV]
theorem ba_size (l : List UInt8) : (⟨l.toArray⟩ : ByteArray).size = l.length := by simp [ByteArray.size]
theorem ba_list (l : List UInt8) : (⟨l.toArray⟩ : ByteArray).data.toList = l := by simp
theorem ba_extract (l : List UInt8) (a b : Nat) : AV.str ((⟨l.toArray⟩ : ByteArray).extract a b) = strV ((l.drop a).take (b - a)) := by
  unfold strV
  congr 1
  apply ByteArray.ext
  simp
theorem ba_get (l : List UInt8) (i : Nat) (h : i < (⟨l.toArray⟩ : ByteArray).size) : (⟨l.toArray⟩ : ByteArray)[i] = l.getD i 0 := by
  have hi : i < l.length := by rw [ba_size] at h; exact h
  show l.toArray[i] = _
  simp [hi]
theorem ba_beq (a b : List UInt8) : ((⟨a.toArray⟩ : ByteArray) == ⟨b.toArray⟩) = (a == b) := by
  have : ((⟨a.toArray⟩ : ByteArray) == ⟨b.toArray⟩) = (a.toArray == b.toArray) := rfl
  rw [this]
  simp
theorem ba_append (a b : List UInt8) : (⟨a.toArray⟩ : ByteArray) ++ ⟨b.toArray⟩ = ⟨(a ++ b).toArray⟩ := by
  apply ByteArray.ext
  simp
@[go_sem] theorem ofVal_str {l : List UInt8} : AV.ofVal (.string ⟨l.toArray⟩) = strV l := by simp [AV.ofVal, strV]
@[go_sem] theorem ofVal_nilp : AV.ofVal (.pointer .none) = .nilp := by simp [AV.ofVal]
@[go_sem] theorem ofVal_nils : AV.ofVal (.slice .none 0 0) = .l true 0 [] := by simp [AV.ofVal]

section ks
variable {h : Hp} {K : AV → Prop}
@[go_sem ↓, go_sem] theorem loadK_ip {gg n cs} : loadK h gg n (.ip cs) K = (n ≤ cs.length ∧ 0 < n ∧ K (part gg n cs 0)) := propext Iff.rfl
@[go_sem ↓, go_sem] theorem loadC_blk {cs gg n sz i j} : loadC (.blk cs) gg n sz i j K = (i = 0 ∧ j + n ≤ cs.length ∧ 0 < n ∧ K (part gg n cs j)) := propext Iff.rfl
@[go_sem ↓, go_sem] theorem loadC_bt {T cs gg n sz i j} : loadC (.bt T cs) gg n sz i j K = (i = 0 ∧ j + n ≤ cs.length ∧ 0 < n ∧ K (part gg n cs j)) := propext Iff.rfl
@[go_sem ↓, go_sem] theorem loadC_arr {sz' xs gg n sz i j} : loadC (.arr sz' xs) gg n sz i j K = (sz' = sz ∧ ∃ hi : i < xs.length, j + n ≤ sz ∧ 0 < n ∧ K (part gg n (xs[i]).cells j)) := propext Iff.rfl
@[go_sem ↓, go_sem] theorem loadK_pt {gg n L sz i j} : loadK h gg n (.pt L sz i j) K = loadC (h.con L) gg n sz i j K := propext Iff.rfl
@[go_sem ↓, go_sem] theorem storeK_eq {n a v} {K : Hp → Prop} : storeK h n a v K = (v.cells.length = n ∧ v.cells.all AV.isCell = true ∧ storeP h n a v.cells K) := propext Iff.rfl
@[go_sem ↓, go_sem] theorem storeP_pt {n L sz i j vs} {K : Hp → Prop} : storeP h n (.pt L sz i j) vs K = storeC (h.con L) h L n sz i j vs K := propext Iff.rfl
@[go_sem ↓, go_sem] theorem storeC_blk {cs L n sz i j vs} {K : Hp → Prop} : storeC (.blk cs) h L n sz i j vs K = (i = 0 ∧ j + n ≤ cs.length ∧ K (h.set L (.blk (setRange cs j vs)))) := propext Iff.rfl
@[go_sem ↓, go_sem] theorem storeC_bt {T cs L n sz i j vs} {K : Hp → Prop} : storeC (.bt T cs) h L n sz i j vs K = (i = 0 ∧ j + n ≤ cs.length ∧ vs.all AV.notL = true ∧ K (h.set L (.bt T (setRange cs j vs)))) := propext Iff.rfl
@[go_sem ↓, go_sem] theorem storeC_arr {sz' xs L n sz i j vs} {K : Hp → Prop} : storeC (.arr sz' xs) h L n sz i j vs K = (sz' = sz ∧ ∃ hi : i < xs.length, j + n ≤ sz ∧ K (h.set L (.arr sz (xs.set i ((xs[i]).over j vs))))) := propext Iff.rfl
@[go_sem] theorem notL_os {L} : (AV.os L).notL = true := by simp [AV.notL]
@[go_sem] theorem setRange_nil {cs j} : setRange cs j [] = cs := by simp [setRange]
@[go_sem] theorem setRange_cons {cs j v vs} : setRange cs j (v :: vs) = setRange (cs.set j v) (j + 1) vs := by simp [setRange]
@[go_sem ↓, go_sem] theorem indexAddrK_os {m L kk i} : indexAddrK h .none m (.os L) (.int kk i) K = indexC (h.con L) L m i K := propext Iff.rfl
@[go_sem ↓, go_sem] theorem indexC_arr {L m i sz xs} : indexC (.arr sz xs) L m i K = (sz = m ∧ 0 ≤ i ∧ i.toNat < xs.length ∧ K (.pt L sz i.toNat 0)) := propext Iff.rfl
@[go_sem ↓, go_sem] theorem lenK_os {L} : lenK h (.os L) K = lenC (h.con L) K := propext Iff.rfl
@[go_sem ↓, go_sem] theorem lenC_arr {sz xs} : lenC (.arr sz xs) K = K (.int .i64 xs.length) := propext Iff.rfl
@[go_sem] theorem cells_agg {cs} : (AV.agg cs).cells = cs := by simp [AV.cells]
@[go_sem] theorem cells_int {k n} : (AV.int k n).cells = [.int k n] := by simp [AV.cells]
@[go_sem] theorem cells_strV {b} : (strV b).cells = [strV b] := by simp [AV.cells, strV]
@[go_sem] theorem cells_l {a b c} : (AV.l a b c).cells = [.l a b c] := by simp [AV.cells]
@[go_sem] theorem cells_os {L} : (AV.os L).cells = [.os L] := by simp [AV.cells]
@[go_sem] theorem isCell_int {k n} : (AV.int k n).isCell = true := by simp [AV.isCell]
@[go_sem] theorem isCell_strV {b} : (strV b).isCell = true := by simp [AV.isCell, strV]
@[go_sem] theorem isCell_l {a b c} : (AV.l a b c).isCell = true := by simp [AV.isCell]
@[go_sem] theorem isCell_os {L} : (AV.os L).isCell = true := by simp [AV.isCell]
@[go_sem ↓, go_sem] theorem boxK_eq {x} {K : List AV → Prop} : boxK x K = (x.cells.all AV.isCell = true ∧ K x.cells) := propext Iff.rfl
@[go_sem] theorem part_agg {n cs j} : part true n cs j = .agg ((cs.drop j).take n) := by simp [part]
@[go_sem] theorem part_one {n cs j} : part false n cs j = cs.getD j .undef := by simp [part]
@[go_sem ↓, go_sem] theorem fieldAddrK_pt {off L sz i j} : fieldAddrK off (.pt L sz i j) K = K (.pt L sz i (j + off)) := propext Iff.rfl
@[go_sem ↓, go_sem] theorem indexAddrK_l {m ex sz xs k i} : indexAddrK h .none m (.l ex sz xs) (.int k i) K = (sz = m ∧ 0 ≤ i ∧ ∃ hi : i.toNat < xs.length, K (.ip (xs[i.toNat]).cells)) := propext Iff.rfl
@[go_sem ↓, go_sem] theorem lenK_l {ex sz xs} : lenK h (.l ex sz xs) K = K (.int .i64 xs.length) := propext Iff.rfl
@[go_sem] theorem lenK_str {s} : lenSK (.str s) K = K (.int .i64 s.size) := propext Iff.rfl
@[go_sem] theorem lenK_strV {s} : lenSK (strV s) K = K (.int .i64 s.length) := by unfold strV; rw [lenK_str, ba_size]
@[go_sem ↓, go_sem] theorem unK_not {b} : unK .not (.bool b) K = K (.bool (!b)) := propext Iff.rfl
section bin
variable {q : EqI} {k : IntKind} {a b : Int}
@[go_sem ↓, go_sem] theorem binK_add : binK q .add (.int k a) (.int k b) K = K (.int k (k.wrap (a + b))) := by simp [binK, intBin]
@[go_sem ↓, go_sem] theorem binK_sub : binK q .sub (.int k a) (.int k b) K = K (.int k (k.wrap (a - b))) := by simp [binK, intBin]
@[go_sem ↓, go_sem] theorem binK_eql : binK q .eql (.int k a) (.int k b) K = K (.bool (a == b)) := by simp [binK, intBin]
@[go_sem ↓, go_sem] theorem binK_neq : binK q .neq (.int k a) (.int k b) K = K (.bool (a != b)) := by simp [binK, intBin]
@[go_sem ↓, go_sem] theorem binK_lss : binK q .lss (.int k a) (.int k b) K = K (.bool (decide (a < b))) := by simp [binK, intBin]
@[go_sem ↓, go_sem] theorem binK_leq : binK q .leq (.int k a) (.int k b) K = K (.bool (decide (a ≤ b))) := by simp [binK, intBin]
@[go_sem ↓, go_sem] theorem binK_gtr : binK q .gtr (.int k a) (.int k b) K = K (.bool (decide (a > b))) := by simp [binK, intBin]
@[go_sem ↓, go_sem] theorem binK_geq : binK q .geq (.int k a) (.int k b) K = K (.bool (decide (a ≥ b))) := by simp [binK, intBin]
end bin
end ks

section code
variable {P : Program} {fid : Nat} {T : Nat → List Tg} {Q : Ex → St → Prop} {st : St}
@[go_sem ↓, go_sem] theorem awp_skip : awp P fid T .skip Q st = Q .normal st := by simp [awp]
@[go_sem ↓, go_sem] theorem awp_region {id l dr} : awp P fid T (.region id (List.toArray l) dr) Q st = opsR P fid (T id) (hidN 0) [] l st (Q .normal) := by
  unfold hidN; rw [← opsR_eq [] 0 rfl]; simp [awp]
@[go_sem ↓, go_sem] theorem awp_seq {a b} : awp P fid T (.seq a b) Q st = awp P fid T a (thenQ (awp P fid T b Q) Q) st := by simp [awp]
@[go_sem ↓, go_sem] theorem awp_cond {c a b} : awp P fid T (.cond c a b) Q st = condK (st.ev c) (awp P fid T a Q st) (awp P fid T b Q st) := by simp only [awp]
@[go_sem ↓, go_sem] theorem awp_block {id c} : awp P fid T (.block id c) Q st = awp P fid T c (blockQ id Q) st := by simp [awp]
@[go_sem ↓, go_sem] theorem awp_exit {id} : awp P fid T (.exit id) Q st = Q (.exit id) st := by simp [awp]
@[go_sem ↓, go_sem] theorem awp_label {l} : awp P fid T (.label l) Q st = Q .normal st := by simp [awp]
@[go_sem ↓, go_sem] theorem awp_ret : awp P fid T .ret Q st = Q .ret st := by simp [awp]
@[go_sem ↓, go_sem] theorem thenQ_n {N} : thenQ N Q .normal st = N st := by simp [thenQ]
@[go_sem ↓, go_sem] theorem thenQ_e {N id} : thenQ N Q (.exit id) st = Q (.exit id) st := by simp [thenQ]
@[go_sem ↓, go_sem] theorem thenQ_r {N} : thenQ N Q .ret st = Q .ret st := by simp [thenQ]
@[go_sem ↓, go_sem] theorem blockQ_n {id} : blockQ id Q .normal st = Q .normal st := by simp [blockQ]
@[go_sem ↓, go_sem] theorem blockQ_e {id id'} : blockQ id Q (.exit id') st = if id' = id then Q .normal st else Q (.exit id') st := by simp [blockQ]
@[go_sem ↓, go_sem] theorem blockQ_r {id} : blockQ id Q .ret st = Q .ret st := by simp [blockQ]
@[go_sem] theorem sucN_eq {n} : sucN n = n + 1 := by simp [sucN]
@[go_sem] theorem hidN_eq {n} : hidN n = n := by simp [hidN]
@[go_sem ↓, go_sem] theorem opsR_nil {tg n done K} : opsR P fid tg n done [] st K = K st := by simp [opsR]
@[go_sem] theorem opsR_plain {n done d op ty ps af r K} : opsR P fid [] n done (⟨d, op, ty, ps, af, .none⟩ :: r) st K = opK P fid ⟨d, op, ty, ps, af, .none⟩ st (fun st' => opsR P fid [] (sucN n) (d :: done) r st' K) := by
  simp only [opsR, guardG, headT, tailT, opT, sucN]
@[go_sem] theorem opsR_tag {t tg n done d op ty ps af r K} : opsR P fid (t :: tg) n done (⟨d, op, ty, ps, af, .none⟩ :: r) st K = opT P fid t ⟨d, op, ty, ps, af, .none⟩ st (fun st' => opsR P fid tg (sucN n) (d :: done) r st' K) := by
  simp only [opsR, guardG, headT, tailT, sucN]
@[congr] theorem opsR_congr {tg tg' : List Tg} {n n' : Nat} {done : List (Option Nat)} {l : List Oper} {K : St → Prop} (e1 : tg = tg') (e2 : n = n') : opsR P fid tg n done l st K = opsR P fid tg' n' done l st K := by
  subst e1; subst e2; rfl
@[go_sem ↓, go_sem] theorem opT_plain {o K} : opT P fid .plain o st K = opK P fid o st K := by simp [opT]
@[go_sem ↓, go_sem] theorem opT_pure {d f args ats ty ps af g K} : opT P fid .pure ⟨d, .call ⟨.value f, args, ats⟩, ty, ps, af, g⟩ st K = pureK P (st.ev f) (args.toList.map st.ev) (fun v => K (st.put d v)) := by simp [opT, pureO]
@[go_sem ↓, go_sem] theorem pureK_fn {gg caps args} {K : AV → Prop} : pureK P (.fn (.func gg) caps) args K = (hasBody P gg = true ∧ PureX P gg (args ++ caps) K ⟨⟩) := propext Iff.rfl
@[go_sem ↓, go_sem] theorem opT_avoid {ss d t a ty ps af g K} : opT P fid (.avoid ss) ⟨d, .load t a, ty, ps, af, g⟩ st K = (avoidK fid ss (st.ev a) ∧ opK P fid ⟨d, .load t a, ty, ps, af, g⟩ st K) := by simp [opT, avoidO]
@[go_sem ↓, go_sem] theorem opT_mine {d t q y ty ps af g K} : opT P fid .mine ⟨d, .store t (.tmp q) y, ty, ps, af, g⟩ st K = (mineK fid q (st.slots q) ∧ opK P fid ⟨d, .store t (.tmp q) y, ty, ps, af, g⟩ st K) := by simp [opT, mineO]
@[go_sem ↓, go_sem] theorem opT_bts {d args ats ty ps af g K} : opT P fid .bts ⟨d, .call ⟨.builtin .append, args, ats⟩, ty, ps, af, g⟩ st K = btsL P fid (d.getD 0) st.hp (args.toList.map st.ev) ats.toList (fun v h => K ((st.withHp h).put d v)) := by simp [opT, btsO]
@[go_sem ↓, go_sem] theorem btsL_2 {f s : Nat} {h : Hp} {x y t u} {K : AV → Hp → Prop} : btsL P f s h [x, y] [t, u] K = (btsU (tk P u) t u ∧ btsA P (tk P t) (tk P u) f s h x y K) := by simp [btsL]
@[go_sem] theorem btsU_s {t u e} : btsU (.slice e) t u = (t = u) := by simp [btsU]
@[go_sem] theorem btsU_t {t u} : btsU .string t u = True := by simp [btsU]
@[go_sem ↓, go_sem] theorem btsA_s {e u} {f s : Nat} {h : Hp} {x y} {K : AV → Hp → Prop} : btsA P (.slice e) u f s h x y K = (btsE P e = true ∧ btsY u y (fun bs => btsX h f s e u x bs K)) := by simp [btsA]
@[go_sem ↓, go_sem] theorem btsY_tV {t} {K : List UInt8 → Prop} : btsY .string (strV t) K = K t := by simp [btsY, strV]
@[go_sem ↓, go_sem] theorem btsY_s {e ex n} {K : List UInt8 → Prop} : btsY (.slice e) (.l ex 1 [.int .u8 n]) K = ∃ b : UInt8, n = b.toNat ∧ K [b] := by simp [btsY]
@[go_sem ↓, go_sem] theorem btsX_l {h : Hp} {f s e bs} {K : AV → Hp → Prop} : btsX h f s e .string (.l true 0 []) bs K = (bs ≠ [] ∧ bs.length ≤ 2 ^ 47 ∧ K (.os (h.fresh f s)) (h.alloc f s (.ba e bs))) := by simp [btsX]
@[go_sem ↓, go_sem] theorem btsX_os {h : Hp} {f s e k L bs} {K : AV → Hp → Prop} : btsX h f s e k (.os L) bs K = btsC (h.con L) h L f s e bs K := by cases k <;> simp [btsX]
@[go_sem ↓, go_sem] theorem btsC_ba {h : Hp} {L f s e e' cs bs} {K : AV → Hp → Prop} : btsC (.ba e' cs) h L f s e bs K = (e' = e ∧ cs ≠ [] ∧ cs.length + bs.length ≤ 2 ^ 47 ∧ K (.os (h.fresh f s)) ((h.set L .none).alloc f s (.ba e (cs ++ bs)))) := by simp [btsC]
@[go_sem] theorem avoidK_pt {ss L a b c} : avoidK fid ss (.pt L a b c) = (L.f = fid → L.s ∉ ss) := by simp [avoidK]
@[go_sem] theorem mineK_pt {q L a b c} : mineK fid q (.pt L a b c) = (L.f = fid ∧ L.s = q) := by simp [mineK]
@[congr] theorem pureK_congr {f f' : AV} {args args' : List AV} {K : AV → Prop} (e : f = f') (e1 : args = args') : pureK P f args K = pureK P f' args' K := by subst e; subst e1; rfl
@[go_sem ↓ high, go_sem high] theorem guardK_tt {A B C} : guardK (.bool true) true A B C = A := by simp [guardK]
@[go_sem ↓ high, go_sem high] theorem guardK_ff {A B C} : guardK (.bool false) false A B C = A := by simp [guardK]
@[go_sem ↓ high, go_sem high] theorem guardK_tf {A B C} : guardK (.bool true) false A B C = B := by simp [guardK]
@[go_sem ↓ high, go_sem high] theorem guardK_ft {A B C} : guardK (.bool false) true A B C = B := by simp [guardK]
@[go_sem ↓ high, go_sem high] theorem condK_t {A B} : condK (.bool true) A B = A := by simp [condK]
@[go_sem ↓ high, go_sem high] theorem condK_f {A B} : condK (.bool false) A B = B := by simp [condK]
@[go_sem ↓, go_sem] theorem guardK_u {want A B C} : guardK .un want A B C = C := propext Iff.rfl
@[go_sem ↓, go_sem] theorem guardO_some {d f} : guardO (some d) f = f d := propext Iff.rfl
@[go_sem] theorem opsR_guard {n done d op ty ps af j want r K} : opsR P fid [] n done (⟨d, op, ty, ps, af, some (j, want)⟩ :: r) st K =
    guardO (nthR done n j) (fun q => guardK (st.slots q) want
      (opK P fid ⟨d, op, ty, ps, af, some (j, want)⟩ (st.put (some q) (.bool want)) (fun st' => opsR P fid [] (sucN n) (d :: done) r st' K))
      (opsR P fid [] (sucN n) (d :: done) r ((st.put (some q) (.bool (!want))).put d .un) K)
      (opsR P fid [] (sucN n) (d :: done) r (st.put d .un) K)) := by
  simp only [opsR, guardG, headT, tailT, opT, sucN]
@[go_sem ↓, go_sem] theorem nthR_cons {d r n j} : nthR (d :: r) n j = selO (j + 1 == n) d (nthR r (n - 1) j) := by
  simp only [nthR, selO]
@[go_sem ↓, go_sem] theorem selO_t {v w} : selO true v w = v := by simp [selO]
@[go_sem ↓, go_sem] theorem selO_f {v w} : selO false v w = w := by simp [selO]
@[congr] theorem selO_congr {b b' : Bool} {v w : Option Nat} (e : b = b') : selO b v w = selO b' v w := by subst e; rfl
end code
@[go_sem] theorem alloc_con {h : Hp} {f s c L} : (h.alloc f s c).con L = if L = ⟨f, s, h.cnt f s⟩ then c else h.con L := by simp [Hp.alloc]
@[go_sem] theorem set_con {h : Hp} {M c L} : (h.set M c).con L = if L = M then (h.con M).keep c else h.con L := by simp [Hp.set]
@[go_sem] theorem keep_blk {cs c} : (Con.blk cs).keep c = c := by simp [Con.keep]
@[go_sem] theorem keep_bt {T cs c} : (Con.bt T cs).keep c = c := by simp [Con.keep]
@[go_sem] theorem keep_ba {T cs c} : (Con.ba T cs).keep c = c := by simp [Con.keep]
@[go_sem] theorem keep_arr {sz xs c} : (Con.arr sz xs).keep c = c := by simp [Con.keep]
@[go_sem] theorem fresh_eq {h : Hp} {f s} : h.fresh f s = ⟨f, s, h.cnt f s⟩ := by simp [Hp.fresh]
@[go_sem] theorem alloc_cnt {h : Hp} {f s c g t} : (h.alloc f s c).cnt g t = if g = f ∧ t = s then h.cnt f s + 1 else h.cnt g t := by simp [Hp.alloc]
@[go_sem] theorem set_cnt {h : Hp} {M c g t} : (h.set M c).cnt g t = h.cnt g t := by simp [Hp.set]
@[go_sem] theorem enter_slots {args h i} : (enter args h).slots i = args.getD i .un := by simp [enter]
@[go_sem] theorem enter_hp {args h} : (enter args h).hp = h := by simp [enter]


section maps
variable {P : Program} {fid : Nat} {d : Option Nat} {ty : TypeId} {ps : String} {af : Array Edge} {g : Option (Nat × Bool)} {st : St} {K : St → Prop} {h : Hp}
end maps

section ends
variable {P : Program} {fn : Func} {r : AV} {h : Hp} {st : St}
@[go_sem ↓, go_sem] theorem endP_ret : endP P fn r h .ret st = (resK P fn.results.toList st (fun vs => oneOf vs = r) ∧ Keeps h st.hp) := by simp [endP]
@[go_sem ↓, go_sem] theorem endH_ret {K : AV → Hp → Prop} : endH P fn K .ret st = resK P fn.results.toList st (fun vs => K (oneOf vs) st.hp) := by simp [endH]
@[go_sem ↓, go_sem] theorem endH_normal {K : AV → Hp → Prop} : endH P fn K .normal st = resK P fn.results.toList st (fun vs => K (oneOf vs) st.hp) := by simp [endH]
@[go_sem ↓, go_sem] theorem resK_nil {K : List AV → Prop} : resK P [] st K = K [] := by simp [resK]
@[go_sem ↓, go_sem] theorem resK_tmp {t rs} {K : List AV → Prop} : resK P (.tmp t :: rs) st K = resK P rs st (fun vs => K (st.slots t :: vs)) := by simp [resK]
@[go_sem ↓, go_sem] theorem resK_cell {a t rs} {K : List AV → Prop} : resK P (.cell a t :: rs) st K = (tin P t = true ∧ loadK st.hp (tk P t).agg (tsz P t) (st.slots a) (fun v => resK P rs st (fun vs => K (v :: vs)))) := by simp [resK]
@[congr] theorem resK_congr {rs rs' : List ResultVar} {K : List AV → Prop} (e : rs = rs') : resK P rs st K = resK P rs' st K := by subst e; rfl
@[go_sem] theorem oneOf_one {v} : oneOf [v] = v := by simp [oneOf]
@[go_sem] theorem oneOf_two {u v} : oneOf [u, v] = .tup [u, v] := by simp [oneOf]
end ends

section more
variable {P : Program} {K : AV → Prop} {h : Hp} {q : EqI} {k : IntKind} {a b : Int} {op : BinOp}
@[go_sem ↓, go_sem] theorem indexO_s {x ix} : indexO P .string x ix K = indexK .none 0 x ix K := propext Iff.rfl
@[go_sem ↓, go_sem] theorem indexK_sV {m s kk i} : indexK .none m (strV s) (.int kk i) K = (0 ≤ i ∧ i.toNat < s.length ∧ K (.int .u8 (s.getD i.toNat 0).toNat)) := by
  unfold strV indexK
  simp only [eq_iff_iff]
  constructor
  · rintro ⟨h1, h2, h3⟩
    exact ⟨h1, by rw [ba_size] at h2; exact h2, by rw [ba_get] at h3; exact h3⟩
  · rintro ⟨h1, h2, h3⟩
    exact ⟨h1, by rw [ba_size]; exact h2, by rw [ba_get]; exact h3⟩
section op1
variable {d : Option Nat} {ty : TypeId} {ps : String} {af : Array Edge} {g : Option (Nat × Bool)} {st : St} {K : St → Prop} {fid : Nat}
@[go_sem ↓, go_sem] theorem opK_slice {t x lo hi mx} : opK P fid ⟨d, .slice t x lo hi mx, ty, ps, af, g⟩ st K = sliceO P (tk P t) st.hp (st.ev x) (lo.map st.ev) (hi.map st.ev) (mx.map st.ev) (fun v => K (st.put d v)) := propext Iff.rfl
end op1
@[go_sem ↓, go_sem] theorem sliceO_strV {k s lo hi mx} : sliceO P k h (strV s) lo hi mx K = (k.sliceable P (strV s) ∧ sliceK (strV s) lo hi mx K) := propext Iff.rfl
@[go_sem ↓, go_sem] theorem sliceO_os {k L lo hi mx} : sliceO P k h (.os L) lo hi mx K = viewP P k (fun sz => viewO (h.con L) L sz lo hi mx K) := propext Iff.rfl
@[go_sem ↓, go_sem] theorem viewP_s {e} {K : Nat → Prop} : viewP P (.slice e) K = (tin P e = true ∧ K (tsz P e)) := propext Iff.rfl
@[go_sem ↓, go_sem] theorem viewO_arr {sz' xs L sz lo hi mx} : viewO (.arr sz' xs) L sz lo hi mx K = (sz' = sz ∧ viewK L sz 0 xs.length lo hi mx K) := propext Iff.rfl
@[congr] theorem sliceO_congr {k k' : TK} {h' : Hp} {x x' : AV} {lo lo' hi hi' mx mx' : Option AV} {K : AV → Prop} (e0 : k = k') (e1 : h = h') (e2 : x = x') (e3 : lo = lo') (e4 : hi = hi') (e5 : mx = mx') : sliceO P k h x lo hi mx K = sliceO P k' h' x' lo' hi' mx' K := by subst e0; subst e1; subst e2; subst e3; subst e4; subst e5; rfl
@[congr] theorem viewO_congr {c c' : Con} {L : Lab} {sz : Nat} {lo hi mx : Option AV} {K : AV → Prop} (e0 : c = c') : viewO c L sz lo hi mx K = viewO c' L sz lo hi mx K := by subst e0; rfl
@[go_sem ↓, go_sem] theorem viewK_hi {L sz n m kk} : viewK L sz n m .none (some (.int kk b)) .none K = (0 ≤ b ∧ b ≤ m ∧ K (.sl L sz n b.toNat)) := propext Iff.rfl
@[go_sem] theorem sliceable_tV {s} : TK.string.sliceable P (strV s) = True := propext Iff.rfl
@[go_sem ↓, go_sem] theorem sliceK_shi {s kk b} : sliceK (strV s) .none (some (.int kk b)) .none K = (0 ≤ b ∧ b ≤ s.length ∧ K (strV (s.take b.toNat))) := by
  unfold strV sliceK
  dsimp only
  rw [ba_size, ba_extract]
  simp [strV]
@[go_sem ↓, go_sem] theorem sliceK_slo {s kk a} : sliceK (strV s) (some (.int kk a)) .none .none K = (0 ≤ a ∧ a ≤ s.length ∧ K (strV (s.drop a.toNat))) := by
  unfold strV sliceK
  dsimp only
  rw [ba_size, ba_extract, List.take_of_length_le (by simp)]
  rfl
@[go_sem ↓, go_sem] theorem binK_saddV {s t} : binK q .add (strV s) (strV t) K = (s.length + t.length < 2 ^ 62 ∧ K (strV (s ++ t))) := by
  unfold strV binK
  dsimp only
  rw [ba_size, ba_size, ba_append]
@[go_sem ↓, go_sem] theorem binK_seqlV {s t} : binK q .eql (strV s) (strV t) K = K (.bool (s == t)) := by
  unfold strV binK
  dsimp only
  rw [ba_beq]
@[go_sem ↓, go_sem] theorem binK_sneqV {s t} : binK q .neq (strV s) (strV t) K = K (.bool (!(s == t))) := by
  unfold strV binK
  dsimp only
  rw [← ba_beq]; rfl
def eqR (r : Option Bool) (K : Bool → Prop) : Prop := match r with
  | some b => K b
  | .none => False
theorem eqR_ex {r : Option Bool} {K : Bool → Prop} : (∃ b, r = some b ∧ K b) = eqR r K := by
  cases r with
  | none => simp [eqR]
  | some b => simp [eqR]
@[go_sem ↓, go_sem] theorem eqR_some {b} {K : Bool → Prop} : eqR (some b) K = K b := propext Iff.rfl
@[congr] theorem eqR_congr {r r' : Option Bool} {K : Bool → Prop} (e : r = r') : eqR r K = eqR r' K := by subst e; rfl
@[go_sem ↓, go_sem] theorem binK_gneq {t y cs ds} : binK (EqI.mk' P t y) .neq (.agg cs) (.agg ds) K = (structEq P t = true ∧ 0 < tsz P t ∧ cs.length = tsz P t ∧ eqR (cellsEq cs ds) (fun b => K (.bool (!b)))) := by
  rw [← eqR_ex]
  simp only [binK, EqI.mk']
  unfold eqK
  cases tk P t <;> rfl
@[go_sem] theorem cellsEq_cons {k a b r s} : cellsEq (.int k a :: r) (.int k b :: s) = (cellsEq r s).map (fun t => (a == b) && t) := by simp [cellsEq]
@[go_sem] theorem cellsEq_nil : cellsEq [] [] = some true := by simp [cellsEq]
end more

/- What simp looks at: what a rule hangs on, never what follows. -/
@[congr] theorem loadK_congr {h h' : Hp} {g g' : Bool} {n n' : Nat} {a a' : AV} {K : AV → Prop} (e0 : h = h') (e1 : g = g') (e2 : n = n') (e3 : a = a') : loadK h g n a K = loadK h' g' n' a' K := by
  subst e0; subst e1; subst e2; subst e3; rfl
@[congr] theorem loadC_congr {c c' : Con} {g g' : Bool} {n : Nat} {sz : Nat} {i : Nat} {j : Nat} {K : AV → Prop} (e0 : c = c') (e1 : g = g') : loadC c g n sz i j K = loadC c' g' n sz i j K := by
  subst e0; subst e1; rfl
@[congr] theorem storeP_congr {h h' : Hp} {n : Nat} {a a' : AV} {vs vs' : List AV} {K : Hp → Prop} (e0 : h = h') (e1 : a = a') (e2 : vs = vs') : storeP h n a vs K = storeP h' n a' vs' K := by
  subst e0; subst e1; subst e2; rfl
@[congr] theorem storeC_congr {c c' : Con} {h : Hp} {L : Lab} {n : Nat} {sz : Nat} {i : Nat} {j : Nat} {vs : List AV} {K : Hp → Prop} (e0 : c = c') : storeC c h L n sz i j vs K = storeC c' h L n sz i j vs K := by
  subst e0; rfl
@[congr] theorem pickK_congr {c c' : AV} {a a' : AV} {b b' : AV} {K : AV → Prop} (e0 : c = c') (e1 : a = a') (e2 : b = b') : pickK c a b K = pickK c' a' b' K := by
  subst e0; subst e1; subst e2; rfl
@[congr] theorem fieldAddrO_congr {o o' : Option (Nat × Nat × TypeId)} {a a' : AV} {K : AV → Prop} (e0 : o = o') (e1 : a = a') : fieldAddrO o a K = fieldAddrO o' a' K := by
  subst e0; subst e1; rfl
@[congr] theorem indexAddrO_congr {P : Program} {k k' : TK} {h h' : Hp} {x x' : AV} {ix ix' : AV} {K : AV → Prop} (e0 : k = k') (e1 : h = h') (e2 : x = x') (e3 : ix = ix') : indexAddrO P k h x ix K = indexAddrO P k' h' x' ix' K := by
  subst e0; subst e1; subst e2; subst e3; rfl
@[congr] theorem indexC_congr {c c' : Con} {L : Lab} {m : Nat} {i : Int} {K : AV → Prop} (e0 : c = c') : indexC c L m i K = indexC c' L m i K := by
  subst e0; rfl
@[congr] theorem indexO_congr {P : Program} {k k' : TK} {x x' : AV} {ix ix' : AV} {K : AV → Prop} (e0 : k = k') (e1 : x = x') (e2 : ix = ix') : indexO P k x ix K = indexO P k' x' ix' K := by
  subst e0; subst e1; subst e2; rfl
@[congr] theorem callV_congr {P : Program} {f f' : AV} {args args' : List AV} {h h' : Hp} {K : AV → Hp → Prop} (e0 : f = f') (e1 : args = args') (e2 : h = h') : callV P f args h K = callV P f' args' h' K := by
  subst e0; subst e1; subst e2; rfl
@[congr] theorem lenO_congr {k k' : TK} {h h' : Hp} {x x' : AV} {K : AV → Prop} (e0 : k = k') (e1 : h = h') (e2 : x = x') : lenO k h x K = lenO k' h' x' K := by
  subst e0; subst e1; subst e2; rfl
@[congr] theorem lenK_congr {h h' : Hp} {x x' : AV} {K : AV → Prop} (e0 : h = h') (e1 : x = x') : lenK h x K = lenK h' x' K := by
  subst e0; subst e1; rfl
@[congr] theorem lenC_congr {c c' : Con} {K : AV → Prop} (e0 : c = c') : lenC c K = lenC c' K := by
  subst e0; rfl
@[congr] theorem appendO_congr {P : Program} {k k' : TK} {u u' : TK} {h h' : Hp} {f : Nat} {s s' : Nat} {x x' : AV} {y y' : AV} {K : AV → Hp → Prop} (e0 : k = k') (e1 : u = u') (e2 : h = h') (e3 : s = s') (e4 : x = x') (e5 : y = y') : appendO P k u h f s x y K = appendO P k' u' h' f s' x' y' K := by
  subst e0; subst e1; subst e2; subst e3; subst e4; subst e5; rfl
@[congr] theorem appendY_congr {e e' : Option (Nat × List AV)} {sz sz' : Nat} {K : List AV → Prop} (e0 : e = e') (e1 : sz = sz') : appendY e sz K = appendY e' sz' K := by
  subst e0; subst e1; rfl
@[congr] theorem appendX_congr {h h' : Hp} {f : Nat} {s s' : Nat} {sz sz' : Nat} {bytes bytes' : Nat} {x x' : AV} {ys ys' : List AV} {K : AV → Hp → Prop} (e0 : h = h') (e1 : s = s') (e2 : sz = sz') (e3 : bytes = bytes') (e4 : x = x') (e5 : ys = ys') : appendX h f s sz bytes x ys K = appendX h' f s' sz' bytes' x' ys' K := by
  subst e0; subst e1; subst e2; subst e3; subst e4; subst e5; rfl
@[congr] theorem btsC_congr {c c' : Con} {h : Hp} {L : Lab} {f : Nat} {s : Nat} {e : TypeId} {bs : List UInt8} {K : AV → Hp → Prop} (e0 : c = c') : btsC c h L f s e bs K = btsC c' h L f s e bs K := by
  subst e0; rfl
@[congr] theorem btsA_congr {P : Program} {k k' u u' : TK} {f s : Nat} {h : Hp} {x x' y y' : AV} {K : AV → Hp → Prop} (e0 : k = k') (e1 : u = u') (e2 : x = x') (e3 : y = y') : btsA P k u f s h x y K = btsA P k' u' f s h x' y' K := by
  subst e0; subst e1; subst e2; subst e3; rfl
@[congr] theorem btsL_congr {P : Program} {f s : Nat} {h : Hp} {args args' : List AV} {ats ats' : List TypeId} {K : AV → Hp → Prop} (e0 : args = args') (e1 : ats = ats') : btsL P f s h args ats K = btsL P f s h args' ats' K := by
  subst e0; subst e1; rfl
@[congr] theorem appendC_congr {c c' : Con} {h : Hp} {L : Lab} {f : Nat} {s : Nat} {sz : Nat} {bytes : Nat} {ys : List AV} {K : AV → Hp → Prop} (e0 : c = c') : appendC c h L f s sz bytes ys K = appendC c' h L f s sz bytes ys K := by
  subst e0; rfl
@[congr] theorem buildSliceK_congr {P : Program} {k k' : TK} {n : Nat} {ev : Operand → AV} {parts parts' : List (Nat × Operand)} {K : AV → Prop} (e0 : k = k') (e1 : parts = parts') : buildSliceK P k n ev parts K = buildSliceK P k' n ev parts' K := by
  subst e0; subst e1; rfl
@[congr] theorem buildK_congr {P : Program} {k k' : TK} {t : TypeId} {ev : Operand → AV} {parts parts' : List (Nat × Operand)} {K : AV → Prop} (e0 : k = k') (e1 : parts = parts') : buildK P k t ev parts K = buildK P k' t ev parts' K := by
  subst e0; subst e1; rfl
@[congr] theorem fillP_congr {p p' : Option (Nat × Nat)} {cs cs' : List AV} {x x' : AV} {K : List AV → Prop} (e0 : p = p') (e1 : cs = cs') (e2 : x = x') : fillP p cs x K = fillP p' cs' x' K := by
  subst e0; subst e1; subst e2; rfl
@[congr] theorem extractK_congr {x x' : AV} {i : Nat} {K : AV → Prop} (e0 : x = x') : extractK x i K = extractK x' i K := by
  subst e0; rfl
@[congr] theorem nilCheckK_congr {x x' : AV} {K : AV → Prop} (e0 : x = x') : nilCheckK x K = nilCheckK x' K := by
  subst e0; rfl
@[congr] theorem unK_congr {op : UnOp} {x x' : AV} {K : AV → Prop} (e0 : x = x') : unK op x K = unK op x' K := by
  subst e0; rfl
@[congr] theorem binK_congr {q : EqI} {op : BinOp} {x x' : AV} {y y' : AV} {K : AV → Prop} (e0 : x = x') (e1 : y = y') : binK q op x y K = binK q op x' y' K := by
  subst e0; subst e1; rfl
@[congr] theorem condK_congr {c c' : AV} {X : Prop} {Y : Prop} (e0 : c = c') : condK c X Y = condK c' X Y := by
  subst e0; rfl
@[congr] theorem guardK_congr {c c' : AV} {want : Bool} {X : Prop} {Y : Prop} {Z : Prop} (e0 : c = c') : guardK c want X Y Z = guardK c' want X Y Z := by
  subst e0; rfl
@[congr] theorem guardO_congr {s s' : Option Nat} {f : Nat → Prop} (e0 : s = s') : guardO s f = guardO s' f := by
  subst e0; rfl
/- The lists' rules, none of them by definition: what is by definition is checked by unfolding, which takes time without bound. -/
section lists
variable {α β : Type} {a b d : α} {l r : List α} {n : Nat} {f : α → β} {p : α → Bool} {x y : Bool}
@[go_sem] theorem q_getD0 : (a :: l).getD 0 d = a := by simp
@[go_sem] theorem q_getDS : (a :: l).getD (n + 1) d = l.getD n d := by simp
@[go_sem] theorem q_lenC : (a :: l).length = l.length + 1 := by simp
@[go_sem] theorem q_lenN : ([] : List α).length = 0 := by simp
@[go_sem] theorem q_appN : [] ++ l = l := by simp
@[go_sem] theorem q_appC : (a :: l) ++ r = a :: (l ++ r) := by simp
@[go_sem] theorem q_drop0 : l.drop 0 = l := by simp
@[go_sem] theorem q_take0 : l.take 0 = [] := by simp
@[go_sem] theorem q_takeS : (a :: l).take (n + 1) = a :: l.take n := by simp
@[go_sem] theorem q_takeN : ([] : List α).take n = [] := by simp
@[go_sem] theorem q_allC : (a :: l).all p = (p a && l.all p) := by simp
@[go_sem] theorem q_allN : ([] : List α).all p = true := by simp
@[go_sem] theorem q_mapC : (a :: l).map f = f a :: l.map f := by simp
@[go_sem] theorem q_mapN : ([] : List α).map f = [] := by simp
@[go_sem] theorem q_lenM : (l.map f).length = l.length := by simp
@[go_sem] theorem q_set0 : (a :: l).set 0 b = b :: l := by simp
@[go_sem] theorem q_setS : (a :: l).set (n + 1) b = a :: l.set n b := by simp
@[go_sem] theorem q_toL : (List.toArray l).toList = l := by simp
@[go_sem] theorem q_at : (x && true) = x := by simp
@[go_sem] theorem q_nt : (!true) = false := by simp
@[go_sem] theorem q_nf : (!false) = true := by simp
@[go_sem] theorem q_gs : (some a).getD d = a := by simp
@[go_sem] theorem q_ms : (some a).map f = some (f a) := by simp
@[go_sem] theorem q_mn : (none : Option α).map f = none := by simp
@[go_sem] theorem q_it : (if True then a else b) = a := by simp
@[go_sem] theorem q_if : (if False then a else b) = b := by simp
@[go_sem] theorem q_m1 {n : Nat} : n * 1 = n := by simp
@[go_sem] theorem q_0p {n : Nat} : 0 + n = n := by simp
@[go_sem] theorem q_p0 {n : Nat} : n + 0 = n := by simp
@[go_sem] theorem q_nat {n : Nat} : ((n : Int)).toNat = n := by simp
@[go_sem] theorem q_em {i : Nat} (h : i < (l.map f).length) : (l.map f)[i] = f (l[i]'(by simpa using h)) := by simp
end lists

attribute [go_sem] true_and and_true eq_self and_self forall_const exists_const Bool.false_eq_true Bool.true_eq_false false_implies true_implies implies_true and_false false_and
  exists_prop Lab.mk.injEq Option.some.injEq reduceCtorEq

end Go.T
/- Freezing: what is mutable no more is a value. -/
namespace Go.T
open Go

/-- One value may be taken for another. -/
def Le (a b : AV) : Prop := ∀ (w : World) (B : Nat → Prop) (e : Env) (h : Hp) (v : Value), R w B (e.E h) a v → R w B (e.E h) b v
theorem Le.refl (a : AV) : Le a a := fun _ _ _ _ _ h => h
theorem Le.l {ex : Bool} {sz : Nat} {xs : List AV} : Le (.l ex sz xs) (.l false sz xs) := by
  intro w B e h v hR
  cases hR with
  | l0 _ _ a c hx => exact .l0 _ _ _ _ (fun h => by simp at h)
  | l _ _ _ b off cap vs h1 h2 h3 h4 h5 h6 h7 h8 => exact .l _ _ _ _ _ _ vs h1 (fun h => by simp at h) h3 h4 h5 h6 h7 h8
  | ref _ _ h => exact h.elim
theorem Le.l0 {ex : Bool} {sz sz' : Nat} : Le (.l ex sz []) (.l false sz' []) := by
  intro w B e h v hR
  cases hR with
  | l0 _ _ a c hx => exact .l0 _ _ _ _ (fun h => by simp at h)
  | l _ _ _ b off cap vs h1 => exact absurd rfl h1
  | ref _ _ h => exact h.elim
theorem Le.tup {aas bs : List AV} (hl : aas.length = bs.length) (h : ∀ j, j < bs.length → Le (aas.getD j .undef) (bs.getD j .undef)) : Le (.tup aas) (.tup bs) := by
  intro w B e hh v hR
  obtain ⟨vs, rfl, h1, h2⟩ := R_tup hR
  exact .tup _ vs (by rw [h1, hl]) (fun j hj => h j hj _ _ _ _ _ (h2 j (by rw [hl]; exact hj)))
theorem Le.agg {aas bs : List AV} (hl : aas.length = bs.length) (h : ∀ j, j < bs.length → Le (aas.getD j .undef) (bs.getD j .undef)) : Le (.agg aas) (.agg bs) := by
  intro w B e hh v hR
  obtain ⟨vs, rfl, h1, h2⟩ := R_agg hR
  exact .agg _ vs (by rw [h1, hl]) (fun j hj => h j hj _ _ _ _ _ (h2 j (by rw [hl]; exact hj)))
/-- A value, label by label frozen, comes to r; the heap lets the labels go. -/
inductive Frz : Hp → AV → Hp → AV → Prop
  | done (h : Hp) (a r : AV) : Le a r → Frz h a h r
  | step (h : Hp) (L : Lab) (a : AV) (h' : Hp) (r : AV) : Frz (h.set L .none) (a.frz L (h.con L)) h' r → Frz h a h' r
theorem Frz.sound {w : World} {h h' : Hp} {a r : AV} (f : Frz h a h' r) : ∀ {B : Nat → Prop} {e : Env} {v : Value}, HRel w B e h → R w B (e.E h) a v →
    ∃ B', HRel w B' e h' ∧ Ext w B e h w B' e h' ∧ R w B' (e.E h') r v := by
  induction f with
  | done h a r hl => exact fun hh hR => ⟨_, hh, Ext.refl _ _ _ _, hl _ _ _ _ _ hR⟩
  | step h L a h' r _ ih =>
    intro B e v hh hR
    obtain ⟨B', h1, h2, h3⟩ := ih (HRel_frz hh) (R_frz hh hR)
    exact ⟨B', h1, Ext_frz.trans h2, h3⟩
/-- **A function's answer, frozen.** -/
theorem CallK.frz {P : Program} {f : Nat} {args : List AV} {h : Hp} {K : AV → Hp → Prop} (hc : CallK P f args h (fun r h' => ∃ h'' r', Frz h' r h'' r' ∧ K r' h'')) : CallK P f args h K := by
  intro w B e vs h1 h2 h3
  refine (hc w B e vs h1 h2 h3).mono ?_
  rintro en w' ⟨v, r, h', B', e', rfl, g2, g3, g4, h'', r', g5, g6⟩
  obtain ⟨B'', k1, k2, k3⟩ := g5.sound g2 g4
  exact ⟨v, r', h'', B'', e', rfl, k1, g3.trans k2, k3, g6⟩

theorem CallK.leArg {P : Program} {f : Nat} {args args' : List AV} {h : Hp} {K : AV → Hp → Prop} (hl : args.length = args'.length) (hle : ∀ i, i < args.length → Le (args.getD i .un) (args'.getD i .un)) (hc : CallK P f args' h K) : CallK P f args h K := by
  intro w B e vs h1 h2 h3
  exact hc w B e vs h1 (by rw [h2, hl]) (fun i hi => hle i (by rw [hl]; exact hi) _ _ _ _ _ (h3 i (by rw [hl]; exact hi)))

section ends
variable {P : Program} {fn : Func} {r : AV} {h : Hp} {st : St}
end ends
end Go.T
/- A round of a range over a function, out of the abstract run of its body. -/
namespace Go.T
open Go

def putS : List Nat → List AV → St → St
  | p :: ps, a :: aas, st => putS ps aas (st.put (some p) a)
  | _, _, st => st
/-- The assignment to the loop's left sides ends aas it begins. -/
def asgQ (N : St → Prop) : Ex → St → Prop
  | .normal, s => N s
  | _, _ => False
/-- A round's end. -/
def roundQ (L : Lab) (slots : Nat → AV) (n : Nat) (ps : List Nat) (asg body : Code) (K : AV → Hp → Prop) : Ex → St → Prop
  | .normal, s => K (.bool true) (s.hp.back L (.lp slots n ps asg body .ready))
  | .exit id, s => K (.bool false) (s.hp.back L (.lp slots n ps asg body (.done (.exit id))))
  | .ret, s => K (.bool false) (s.hp.back L (.lp slots n ps asg body (.done .ret)))

theorem putS_rel {w : World} {B : Nat → Prop} {e : Env} {n : Nat} : ∀ (ps : List Nat) (aas : List AV) (vs : List Value) (st : St) (tmps : Array Value), aas.length = ps.length → vs.length = ps.length → (∀ p ∈ ps, p < n) →
    tmps.size = n → (∀ i, R w B (e.E st.hp) (st.slots i) (tmps.getD i undef)) → (∀ i, i < aas.length → R w B (e.E st.hp) (aas.getD i .un) (vs.getD i undef)) →
    ((ps.zip vs).foldl (fun t p => t.setIfInBounds p.1 p.2) tmps).size = n ∧ (putS ps aas st).hp = st.hp ∧ ∀ i, R w B (e.E st.hp) ((putS ps aas st).slots i) (((ps.zip vs).foldl (fun t p => t.setIfInBounds p.1 p.2) tmps).getD i undef) := by
  intro ps
  induction ps with
  | nil =>
    intro aas vs st tmps h1 h2 _ h3 h4 _
    have : aas = [] := List.length_eq_zero_iff.1 h1
    subst this
    exact ⟨by simpa using h3, rfl, by simpa [putS] using h4⟩
  | cons p ps ih =>
    intro aas vs st tmps h1 h2 hp h3 h4 h5
    cases aas with
    | nil => simp at h1
    | cons a aas =>
      cases vs with
      | nil => simp at h2
      | cons v vs =>
        have hpn := hp p (by simp)
        have h0 := h5 0 (by simp)
        simp only [List.getD_cons_zero] at h0
        obtain ⟨g1, g2, g3⟩ := ih aas vs (st.put (some p) a) (tmps.setIfInBounds p v) (by simpa using h1) (by simpa using h2) (fun q hq => hp q (by simp [hq])) (by simpa using h3) (fun i => by
          rw [put_slots, put_hp]
          by_cases hi : i = p
          · subst hi
            rw [if_pos rfl]
            have : (tmps.setIfInBounds i v).getD i undef = v := by
              simp only [Array.getD_eq_getD_getElem?]
              rw [Array.getElem?_setIfInBounds_self_of_lt (by omega)]; rfl
            rw [this]; exact h0
          · rw [if_neg hi]
            have : (tmps.setIfInBounds p v).getD i undef = tmps.getD i undef := by
              simp only [Array.getD_eq_getD_getElem?]
              rw [Array.getElem?_setIfInBounds_ne (Ne.symm hi)]
            rw [this]; exact h4 i) (fun i hi => by
          rw [put_hp]
          have := h5 (i + 1) (by simpa using hi)
          simpa using this)
        rw [put_hp] at g2 g3
        exact ⟨by simpa using g1, by simpa [putS] using g2, by simpa [putS] using g3⟩

section
variable {P : Program}
theorem YieldK.of_awpC (hm : P.follows .mixedOrders = true) (fid : Nat) (T : Nat → List Tg) {L : Lab} {args : List AV} {h : Hp} {K : AV → Hp → Prop} {slots : Nat → AV} {n : Nat} {ps : List Nat} {asg bd : Code}
    (hcon : h.con L = .lp slots n ps asg bd .ready) (hn : ntm P fid = n) (hps : ∀ p ∈ ps, p < n) (hok1 : okCode n T asg = true) (hok2 : okCode n T bd = true) (hlen : args.length = ps.length)
    (hk : awp P fid T asg (asgQ (awp P fid T bd (fun x s => (∀ f t, h.cnt f t ≤ s.hp.cnt f t) → roundQ L slots n ps asg bd K x s))) (putS ps args ⟨slots, h.set L .none⟩)) : YieldK P L args h K := by
  intro w B e vs hh hLk hs hargs
  have hL : e.has h L := ⟨hLk, by rw [hcon]; trivial⟩
  have hc := hh.con L hLk
  rw [hcon] at hc
  obtain ⟨hB, r, hrow, hpar, hasg, hbody, hsz, hslots, hst, hpend⟩ := hc
  have hlt : (e.β L).block < w.heap.size := (hh.lt hL).1
  refine ⟨r.fn, _, r.assign, r.body, run_yield hrow (by rw [hs, hlen, ← hpar]; simp), fun ro m => ?_⟩
  rw [hasg, hbody]
  -- the round begins: the record is no one's
  have hx1 : Ext w B e h w B e (h.set L .none) := Ext.drop (fun M => dropc M) rfl
  have hh1 : HRel w B e (h.set L .none) := HRel.drop hh (fun M => dropc M) rfl
  have free1 : ∀ M, e.has (h.set L .none) M → (e.β M).block ≠ (e.β L).block := fun M hM hE => (has_drop hM).1 (hh.inj _ _ (has_drop hM).2 hL hE)
  have hfold : (r.params.zip vs).foldl (fun tmps x => tmps.setIfInBounds x.1 x.2) r.tmps = (ps.zip vs.toList).foldl (fun t p => t.setIfInBounds p.1 p.2) r.tmps := by
    rw [← Array.foldl_toList, Array.toList_zip, hpar]
  obtain ⟨p1, p2, p3⟩ := putS_rel (w := w) (B := B) (e := e) (n := n) ps args vs.toList ⟨slots, h.set L .none⟩ r.tmps hlen (by rw [← hlen, ← hs]; simp) hps hsz (fun i => (hslots i).ext hh hx1) (fun i hi => by
    have := (hargs i hi).ext hh hx1
    simpa using this)
  have hrel : Rel w B e n (putS ps args ⟨slots, h.set L .none⟩) { tmps := (r.params.zip vs).foldl (fun tmps x => tmps.setIfInBounds x.1 x.2) r.tmps, defers := [] } := by
    rw [hfold]
    exact ⟨by rw [p2]; exact hh1, fun i => by rw [p2]; exact p3 i, p1⟩
  have main := awp_sound (w0 := w) (B0 := B) (e0 := e) (h0 := h.set L .none) (n := n) hm fid hn T (some (e.β L).block) w.heap.size (Nat.le_refl _) (fun l0 hl0 => by
    simp only [Option.some.injEq] at hl0; subst hl0; exact ⟨r, hrow, hlt, free1⟩) asg _ _ _ w B e m hok1 hrel (by rw [p2]; exact Ext.refl _ _ _ _) (DefOK.nil _ _ _ _ _) hk
  refine roundIn_of_wpIn (F := wr ro) (n := m) (l := (e.β L).block) trivial (wpIn_mono main ?_)
  rintro ex a1 w1 ⟨x', hx', st1, B1, e1, g1, g2, g3, g4⟩
  have key : awp P fid T bd (fun x s => (∀ f t, h.cnt f t ≤ s.hp.cnt f t) → roundQ L slots n ps asg bd K x s) st1 → ∃ w₂, (Instr.beginRound (e.β L).block).run P w1 = .ok () w₂ ∧ bd.wpIn ((wr ro).inRound (e.β L).block) m P (roundPost P (e.β L).block (fun en w' => ∃ v r h' B' e', en = .returned v ∧ HRel w' B' e' h' ∧ Ext w B e h w' B' e' h' ∧ R w' B' (e'.E h') r v ∧ K r h')) a1 w₂ := by
    intro hbd
    obtain ⟨s1, s2, s3⟩ := unowned_ext g3 hlt free1
    have nb1 : ¬ B1 (e.β L).block := notB_ext g3 hlt free1 hB
    refine ⟨w1.putObj (e.β L).block (.loop { r with state := .busy }), run_beginRound (s2.trans hrow) hst, ?_⟩
    have hother1 : ∀ b, (B1 b ∨ ∃ M, e1.has st1.hp M ∧ (e1.β M).block = b) → (w1.putObj (e.β L).block (.loop { r with state := .busy })).heap[b]? = w1.heap[b]? := by
      rintro b (hb | ⟨M, hM, rfl⟩)
      · exact World.putObj_heap_other (fun hE => nb1 (hE ▸ hb))
      · exact World.putObj_heap_other (s3 M hM)
    have hh2 : HRel (w1.putObj (e.β L).block (.loop { r with state := .busy })) B1 e1 st1.hp := g2.hp.free (by simp) hother1
    have hrel2 : Rel (w1.putObj (e.β L).block (.loop { r with state := .busy })) B1 e1 n st1 a1 := ⟨hh2, fun i => (g2.slots i).mono (fun b hb => hother1 b (.inl hb)) (fun _ h => h) (fun _ _ h => h), g2.size⟩
    have hrow2 : (w1.putObj (e.β L).block (.loop { r with state := .busy })).heap[(e.β L).block]? = some (.loop { r with state := .busy }) := World.putObj_heap_same s1
    have hdef2 : DefOK w.heap.size (w1.putObj (e.β L).block (.loop { r with state := .busy })) B1 e1 st1.hp a1.defers := by
      obtain ⟨Ds, d1, d2, d3⟩ := g4
      refine ⟨Ds, d1, d2, fun D hD => ?_⟩
      obtain ⟨y1, y2, y3, y4, y5⟩ := d3 D hD
      have hne : D ≠ (e.β L).block := fun hE => by
        rw [hE, s2, hrow] at y4; simp at y4
      exact ⟨y1, y2, by simpa using y3, by rw [World.putObj_heap_other hne]; exact y4, y5⟩
    have main2 := awp_sound (w0 := w1.putObj (e.β L).block (.loop { r with state := .busy })) (B0 := B1) (e0 := e1) (h0 := st1.hp) (n := n) hm fid hn T (some (e.β L).block) w.heap.size (by simpa using g3.size) (fun l0 hl0 => by
      simp only [Option.some.injEq] at hl0; subst hl0; exact ⟨_, hrow2, by simpa using s1, s3⟩) bd _ _ _ _ B1 e1 m hok2 hrel2 (Ext.refl _ _ _ _) hdef2 hbd
    refine wpIn_mono main2 ?_
    rintro ex2 a3 w3 ⟨x2, hx2, st3, B3, e3, k1, k2, k3, k4⟩
    obtain ⟨t1, t2, t3⟩ := unowned_ext k3 (by simpa using s1) s3
    have nb3 : ¬ B3 (e.β L).block := notB_ext k3 (by simpa using s1) s3 nb1
    have hrow3 : w3.heap[(e.β L).block]? = some (.loop { r with state := .busy }) := t2.trans hrow2
    have hk3 : L.k < st3.hp.cnt L.f L.s := Nat.lt_of_lt_of_le (Nat.lt_of_lt_of_le hLk (g3.cnt _ _)) (k3.cnt _ _)
    have hk1 : L.k < st1.hp.cnt L.f L.s := Nat.lt_of_lt_of_le hLk (g3.cnt _ _)
    have hβ3 : e3.β L = e.β L := by rw [(k3.env L hk1).1]; exact (g3.env L hLk).1
    -- the record is taken up again
    have finish : ∀ (jump : Option Code) (s' : LpS), (match s' with | .ready => jump = none | .done x => jump = some (exC x)) → ∀ b, b = jump.isNone → K (.bool b) (st3.hp.back L (.lp slots n ps asg bd s')) →
        ∃ v w', (Instr.endRound (e.β L).block jump).run P w3 = .ok v w' ∧ (fun en w' => ∃ v r h' B' e', en = .returned v ∧ HRel w' B' e' h' ∧ Ext w B e h w' B' e' h' ∧ R w' B' (e'.E h') r v ∧ K r h') (Ending.returned v) w' := by
      intro jump s' hj b hb hK
      obtain ⟨o4, ho4⟩ : ∃ o : Loop, o = { r with state := if jump.isNone then .ready else .done, pending := jump } := ⟨_, rfl⟩
      have hc4 : ∀ M, (st3.hp.back L (.lp slots n ps asg bd s')).con M = if M = L then .lp slots n ps asg bd s' else st3.hp.con M := fun M => back_con hk3 M
      have hcnt4 : (st3.hp.back L (.lp slots n ps asg bd s')).cnt = st3.hp.cnt := back_cnt
      have has4 : ∀ M, M ≠ L → e3.has (st3.hp.back L (.lp slots n ps asg bd s')) M → e3.has st3.hp M := fun M hne hM => by
        refine ⟨by have := hM.1; rwa [hcnt4] at this, ?_⟩
        have := hM.2
        rwa [hc4, if_neg hne] at this
      have live4 : ∀ M, ((st3.hp.back L (.lp slots n ps asg bd s')).con M).live → M ≠ L ∧ (st3.hp.con M).live := fun M hl => by
        rw [hc4] at hl
        by_cases hE : M = L
        · rw [if_pos hE] at hl; exact hl.elim
        · rw [if_neg hE] at hl; exact ⟨hE, hl⟩
      have hE4 : ∀ a v, e3.E st3.hp a v → e3.E (st3.hp.back L (.lp slots n ps asg bd s')) a v := fun a v hE => by
        cases a with
        | pt M sz i j => exact ⟨by rw [hcnt4]; exact hE.1, hE.2.1, fun hl => hE.2.2 (live4 M hl).2⟩
        | os M => exact ⟨by rw [hcnt4]; exact hE.1, hE.2.1, fun hl => hE.2.2 (live4 M hl).2⟩
        | sl M a n c => exact ⟨by rw [hcnt4]; exact hE.1, hE.2.1, fun hl => hE.2.2 (live4 M hl).2⟩
        | mr M => exact ⟨by rw [hcnt4]; exact hE.1, hE.2.1, fun hl => hE.2.2 (live4 M hl).2⟩
        | yl M => exact ⟨by rw [hcnt4]; exact hE.1, hE.2⟩
        | _ => exact hE.elim
      have hother3 : ∀ b, (B3 b ∨ ∃ M, e3.has st3.hp M ∧ (e3.β M).block = b) → (w3.putObj (e.β L).block (.loop o4)).heap[b]? = w3.heap[b]? := by
        rintro b (hb | ⟨M, hM, rfl⟩)
        · exact World.putObj_heap_other (fun hE => nb3 (hE ▸ hb))
        · exact World.putObj_heap_other (t3 M hM)
      have xx : Ext w B e h (w3.putObj (e.β L).block (.loop o4)) B3 e3 (st3.hp.back L (.lp slots n ps asg bd s')) := by
        have z1 := g3.size
        have z2 := k3.size
        simp only [World.putObj_size] at z2
        refine ⟨by simp; omega, k3.os.trans g3.os, k3.tape.trans g3.tape, k3.output.trans g3.output, fun b hb => k3.bsub b (g3.bsub b hb), fun b hb => ?_, fun b hb ho => ?_, fun M hM => ?_, fun f s => ?_, fun M hM => ?_, fun M hM hl => ?_⟩
        · rcases k3.bnew b hb with q | ⟨M, q1, q2⟩ | q
          · rcases g3.bnew b q with q | ⟨M, q1, q2⟩ | q
            · exact .inl q
            · exact .inr (.inl ⟨M, (has_drop q1).2, q2⟩)
            · exact .inr (.inr q)
          · rcases g3.onew M q1 with ⟨M', q3, q4⟩ | q3
            · exact .inr (.inl ⟨M', (has_drop q3).2, q4.trans q2⟩)
            · exact .inr (.inr (by omega))
          · exact .inr (.inr (by simp at q; omega))
        · have hbl : b ≠ (e.β L).block := fun hE => ho L hL hE.symm
          have u1 : ∀ M, e.has (h.set L .none) M → (e.β M).block ≠ b := fun M hM => ho M (has_drop hM).2
          obtain ⟨v1, v2, v3⟩ := unowned_ext g3 hb u1
          obtain ⟨_, v5, _⟩ := unowned_ext k3 (by simpa using v1) v3
          rw [World.putObj_heap_other hbl, v5, World.putObj_heap_other hbl, v2]
        · by_cases hE : M = L
          · exact .inl ⟨L, hL, by rw [hE, hβ3]⟩
          · rcases k3.onew M (has4 M hE hM) with ⟨M', q1, q2⟩ | q1
            · rcases g3.onew M' q1 with ⟨M2, q3, q4⟩ | q3
              · exact .inl ⟨M2, (has_drop q3).2, q4.trans q2⟩
              · exact .inr (by omega)
            · exact .inr (by simp at q1; omega)
        · rw [hcnt4]; exact Nat.le_trans (g3.cnt f s) (k3.cnt f s)
        · obtain ⟨q1, q2⟩ := g3.env M hM
          obtain ⟨q3, q4⟩ := k3.env M (Nat.lt_of_lt_of_le hM (g3.cnt _ _))
          exact ⟨q3.trans q1, q4.trans q2⟩
        · have h1 := live4 M hl
          have h2 := k3.live M (Nat.lt_of_lt_of_le hM (g3.cnt _ _)) h1.2
          have h3 := g3.live M hM h2
          rcases dropc (h := h) (L := L) M with h4 | h4
          · rw [h4] at h3; exact h3.elim
          · rwa [h4] at h3
      have hh4 : HRel (w3.putObj (e.β L).block (.loop o4)) B3 e3 (st3.hp.back L (.lp slots n ps asg bd s')) := by
        refine ⟨fun M hM => ?_, fun M M' hM hM' hb => ?_, fun b hb => by simpa using k2.hp.bnd b hb, fun i => ⟨by rw [hcnt4]; exact (k2.hp.glb i).1, (k2.hp.glb i).2⟩⟩
        · rw [hc4]
          by_cases hE : M = L
          · subst hE
            rw [if_pos rfl]
            refine ⟨by rw [hβ3]; exact nb3, o4, by rw [hβ3]; exact World.putObj_heap_same t1, by rw [ho4]; exact hpar, by rw [ho4]; exact hasg, by rw [ho4]; exact hbody, by rw [ho4]; exact hsz, fun i => ?_, ?_⟩
            · have : o4.tmps = r.tmps := by rw [ho4]
              rw [this]; exact (hslots i).ext hh xx
            · rw [ho4]
              cases s' with
              | ready => simp only at hj; subst hj; exact ⟨rfl, rfl⟩
              | done x => simp only at hj; subst hj; exact ⟨rfl, rfl⟩
          · rw [if_neg hE]
            have hk' : M.k < st3.hp.cnt M.f M.s := by rw [hcnt4] at hM; exact hM
            exact ConRel.move (fun a v hR => hR.mono (fun b hb => hother3 b (.inl hb)) (fun _ h => h) hE4) rfl rfl (fun ho => hother3 _ (.inr ⟨M, own_has hk' ho, rfl⟩)) (fun _ h => h) (fun b hb => hother3 b (.inl hb)) (fun _ h => h) (k2.hp.con M hk')
        · by_cases hE : M = L
          · by_cases hE' : M' = L
            · rw [hE, hE']
            · exfalso
              rw [hE, hβ3] at hb
              exact t3 M' (has4 M' hE' hM') hb.symm
          · by_cases hE' : M' = L
            · exfalso
              rw [hE', hβ3] at hb
              exact t3 M (has4 M hE hM) hb
            · exact k2.hp.inj M M' (has4 M hE hM) (has4 M' hE' hM') hb
      refine ⟨_, _, run_endRound jump hrow3, _, .bool b, st3.hp.back L (.lp slots n ps asg bd s'), B3, e3, rfl, ?_, ?_, by rw [hb]; exact .bool _, hK⟩
      · rw [ho4] at hh4; exact hh4
      · rw [ho4] at xx; exact xx
    cases ex2 with
    | normal =>
      simp only [toEx, Option.some.injEq] at hx2; subst hx2
      exact finish none .ready rfl true rfl (k1 fun f t => Nat.le_trans (g3.cnt f t) (k3.cnt f t))
    | exit id =>
      simp only [toEx, Option.some.injEq] at hx2; subst hx2
      exact finish (some (.exit id)) (.done (.exit id)) rfl false rfl (k1 fun f t => Nat.le_trans (g3.cnt f t) (k3.cnt f t))
    | ret =>
      simp only [toEx, Option.some.injEq] at hx2; subst hx2
      exact finish (some .ret) (.done .ret) rfl false rfl (k1 fun f t => Nat.le_trans (g3.cnt f t) (k3.cnt f t))
    | goto l => simp [toEx] at hx2
    | panic ch => simp [toEx] at hx2
    | outgrown => simp [toEx] at hx2
  cases ex with
  | normal =>
    simp only [toEx, Option.some.injEq] at hx'; subst hx'
    exact key g1
  | exit id => simp only [toEx, Option.some.injEq] at hx'; subst hx'; exact g1.elim
  | ret => simp only [toEx, Option.some.injEq] at hx'; subst hx'; exact g1.elim
  | goto l => simp [toEx] at hx'
  | panic ch => simp [toEx] at hx'
  | outgrown => simp [toEx] at hx'
end
end Go.T
/- The rules by which simp runs ranges over functions, nil tests, min and max. -/
namespace Go.T
open Go

def YieldX (P : Program) (L : Lab) (args : List AV) (h : Hp) (K : AV → Hp → Prop) (_ : Tok K) : Prop := YieldK P L args h K
theorem YieldX.of {P : Program} {L : Lab} {args : List AV} {h : Hp} {K : AV → Hp → Prop} {u : Tok K} (hc : YieldK P L args h K) : YieldX P L args h K u := hc
@[go_sem ↓, go_sem] theorem callV_yl {P : Program} {L : Lab} {args : List AV} {h : Hp} {K : AV → Hp → Prop} : callV P (.yl L) args h K = YieldX P L args h K ⟨⟩ := propext Iff.rfl

section
variable {P : Program} {fid : Nat} {T : Nat → List Tg} {Q : Ex → St → Prop} {st : St}
@[go_sem ↓, go_sem] theorem awp_range {g : Operand} {ps : List Nat} {asg body : Code} : awp P fid T (.rangeFunc g (List.toArray ps) asg body) Q st = rangeK P fid (st.ev g) ps asg body Q st := by simp [awp]
@[go_sem ↓, go_sem] theorem rangeK_fn {gf : Nat} {caps : List AV} {ps : List Nat} {asg body : Code} : rangeK P fid (.fn (.func gf) caps) ps asg body Q st = (hasBody P gf = true ∧ CallX P gf (.yl ⟨fid, lpSlot, st.hp.cnt fid lpSlot⟩ :: caps) (st.hp.alloc fid lpSlot (.lp st.slots (ntm P fid) ps asg body .ready))
      (fun _ h => endLpC (h.con ⟨fid, lpSlot, st.hp.cnt fid lpSlot⟩) (fun x => Q x ⟨st.slots, h.set ⟨fid, lpSlot, st.hp.cnt fid lpSlot⟩ .none⟩)) ⟨⟩) := propext Iff.rfl
@[congr] theorem rangeK_congr {g g' : AV} {ps : List Nat} {asg body : Code} (e : g = g') : rangeK P fid g ps asg body Q st = rangeK P fid g' ps asg body Q st := by subst e; rfl
end
section
variable {K : Ex → Prop} {sl : Nat → AV} {n : Nat} {ps : List Nat} {asg body : Code}
end
@[go_sem ↓, go_sem] theorem asgQ_n {N : St → Prop} {s : St} : asgQ N .normal s = N s := propext Iff.rfl
section
variable {L : Lab} {slots : Nat → AV} {n : Nat} {ps : List Nat} {asg body : Code} {K : AV → Hp → Prop} {s : St}
end
@[go_sem] theorem putS_cons {p ps a aas st} : putS (p :: ps) (a :: aas) st = putS ps aas (st.put (some p) a) := by simp [putS]
@[go_sem] theorem putS_nil {aas st} : putS [] aas st = st := by simp [putS]
@[go_sem] theorem ofVal_nilf : AV.ofVal .nilFunc = .nilf := by simp [AV.ofVal]

/- Tests for nil. -/
section
variable {P : Program} {t : TypeId} {y : Operand} {K : AV → Prop}
end
section
variable {P : Program} {fid : Nat} {d : Option Nat} {ty : TypeId} {ps : String} {af : Array Edge} {g : Option (Nat × Bool)} {st : St} {K : St → Prop}
end
/- The record under a name. -/
section
variable {L : Lab} {c : Con} {K : AV → Hp → Prop} {s : St}
end
theorem lt_of_con {h : Hp} {L : Lab} {c : Con} (hc : h.con L = c) (hn : c ≠ .none) : L.k < h.cnt L.f L.s := by
  rcases Nat.lt_or_ge L.k (h.cnt L.f L.s) with h1 | h1
  · exact h1
  · exact absurd (hc.symm.trans (h.ok L h1)) hn
theorem ne_lpSlot {n : Nat} (h : n < 1000000) : (n = lpSlot) = False := by
  unfold lpSlot; simp; omega
end Go.T
/- Maps of pairs of ints to pairs of ints: what is found, what is laid in; the frame of labels. -/
namespace Go.T
open Go Go.Gh

def pairA (k : Int × Int) : AV := .agg [.int .i64 k.1, .int .i64 k.2]
theorem keyEq_pair (a b : Int) (k : Int × Int) : keyEq [.int .i64 a, .int .i64 b] (pairA k) = some (decide (k = (a, b))) := by
  obtain ⟨c, d⟩ := k
  simp only [keyEq, pairA, cellsEq_cons, cellsEq_nil, Option.map_some]
  simp only [Prod.mk.injEq, Option.some.injEq, Bool.and_true]
  by_cases h1 : a = c
  · by_cases h2 : b = d
    · simp [h1, h2]
    · have h2' : ¬ d = b := fun e => h2 e.symm
      simp [h1, h2, h2']
  · have h1' : ¬ c = a := fun e => h1 e.symm
    simp [h1, h1']
/-- What was found outside these labels is aas it was. -/
def Fr (S : List Lab) (h H : Hp) : Prop := ∀ M, M ∈ S ∨ h.con M = .none ∨ H.con M = h.con M
theorem Fr.new {S : List Lab} {h H : Hp} (k : Fr S h H) (f s : Nat) : (⟨f, s, H.cnt f s⟩ : Lab) ∈ S ∨ h.con ⟨f, s, H.cnt f s⟩ = .none := by
  rcases k ⟨f, s, H.cnt f s⟩ with h2 | h2 | h2
  · exact .inl h2
  · exact .inr h2
  · right; rw [← h2]; exact H.ok _ (by simp)
theorem CallX.at {P : Program} {f : FuncId} {args : List AV} {h : Hp} {K : AV → Hp → Prop} {u : Tok K} {r : AV} (hc : CallK P f args h (fun r' h' => r' = r ∧ h' = h)) (hk : K r h) : CallX P f args h K u :=
  CallX.of (hc.mono fun _ _ ⟨h1, h2⟩ => by rw [h1, h2]; exact hk)
end Go.T
/- Loops that count. -/
namespace Go.T
open Go
def cntM (ti n : Nat) (s : St) : Nat := match s.slots ti with | .int _ i => ((n : Int) - i).toNat | _ => 0
theorem awp_count {P : Program} {fid : Nat} {T : Nat → List Tg} {c : Code} {Q : Ex → St → Prop} {st : St} (ti tn : Nat) (n : Nat) (hb : n ≤ 9223372036854775807) (J : Nat → St → Prop)
    (h0 : st.slots ti = .int .i64 0) (h1 : st.slots tn = .int .i64 n) (hJ : J 0 st)
    (step : ∀ (i : Nat) (s : St), i < n → decide ((i : Int) < n) = true → IntKind.i64.wrap ((i : Int) + 1) = ((i + 1 : Nat) : Int) → s.slots ti = .int .i64 i → s.slots tn = .int .i64 n → J i s →
      awp P fid T c (thenQ (fun s' => s'.slots ti = .int .i64 ((i + 1 : Nat) : Int) ∧ s'.slots tn = .int .i64 n ∧ J (i + 1) s') Q) s)
    (last : ∀ s : St, decide ((n : Int) < n) = false → s.slots ti = .int .i64 n → s.slots tn = .int .i64 n → J n s → awp P fid T c (thenQ (fun _ => False) Q) s) :
    awp P fid T (.loop c) Q st := by
  have hm : ∀ (s : St) (i : Nat), s.slots ti = .int .i64 i → cntM ti n s = n - i := by
    intro s i h; unfold cntM; rw [h]; show ((n : Int) - i).toNat = n - i; omega
  simp only [awp]
  refine ⟨fun s => ∃ i : Nat, i ≤ n ∧ s.slots ti = .int .i64 i ∧ s.slots tn = .int .i64 n ∧ J i s, cntM ti n, ⟨0, Nat.zero_le _, by simpa using h0, h1, hJ⟩, ?_⟩
  rintro s ⟨i, hi, g0, g1, gJ⟩
  by_cases hlt : i < n
  · refine awp_mono (step i s hlt (by simpa using hlt) (by rw [IntWalk.i64_in _ (by omega)]; simp) g0 g1 gJ) fun x s' hs => ?_
    cases x with
    | normal =>
      obtain ⟨k0, k1, kJ⟩ := hs
      exact ⟨⟨i + 1, hlt, k0, k1, kJ⟩, by rw [hm s' _ k0, hm s _ g0]; omega⟩
    | exit id => exact hs
    | ret => exact hs
  · have : i = n := by omega
    subst this
    refine awp_mono (last s (by simp) g0 g1 gJ) fun x s' hs => ?_
    cases x with
    | normal => exact hs.elim
    | exit id => exact hs
    | ret => exact hs
end Go.T
/- Plain laws of states: messages, sides, chains. -/
namespace Go.Gh
structure Cel where
  num : Int
  state : Int
  node : Int
  next : Int
def withinB (x lo hi : Int) : Bool := decide (lo ≤ x) && decide (x ≤ hi)
def bareB (c : Cel) : Bool := c.node == -1 && c.next == 0
def ledB (c : Cel) : Bool := withinB c.node 0 31 && withinB c.next 1 1099511627776
/-- What is asked of the cell at place i. -/
def cellOk (cs : List Cel) (me : Int) (sink : Bool) (i : Nat) (c : Cel) : Bool :=
  withinB c.num 0 1099511627776 && (i == 0 || decide ((cs[i - 1]?.map Cel.num).getD 0 < c.num)) && withinB c.state 1 3 && (i == 0 || c.state == 1) && (c.num != 0 || c.state == 3) &&
  (if sink && i + 1 == cs.length then bareB c else c.state != 3 && ledB c && (c.node != me || (i + 1 != cs.length && (cs[i + 1]?.map Cel.num).getD 0 == c.next)))
def cellAt (cs : List Cel) (me : Int) (sink : Bool) (i : Nat) : Bool := match cs[i]? with
  | some c => cellOk cs me sink i c
  | none => true
end Go.Gh
/- Freezing lists of own slices. -/
namespace Go.T
open Go
theorem Le.ip {cs ds : List AV} (hl : ds.length = cs.length) (hc : ∀ j, j < cs.length → Le (cs.getD j .undef) (ds.getD j .undef)) : Le (.ip cs) (.ip ds) := by
  intro w B e h v hR
  cases hR with
  | ip _ b off vs h1 h2 h3 => exact .ip ds b off vs h1 (fun j hj => h2 j (hl ▸ hj)) (fun j hj => hc j (hl ▸ hj) _ _ _ _ _ (h3 j (hl ▸ hj)))
  | ref _ _ hr => exact hr.elim
theorem frzs_id {ds : List AV} (hd : ∀ d ∈ ds, ∀ L c, d.frz L c = d) (L : Lab) (c : Con) : AV.frzs L c ds = ds := by
  rw [frzs_map]; conv => rhs; rw [← List.map_id ds]
  exact List.map_congr_left fun d hdm => hd d hdm L c
end Go.T
/- Plain laws of scripts: a text's lines, a line's words, a word's number; the document's way and the program's. -/
namespace Go.Sc
abbrev Bs := List UInt8
/-- The pieces of a text between separators. -/
def cut (c : UInt8) : Bs → List Bs
  | [] => [[]]
  | x :: r => if x = c then [] :: cut c r else match cut c r with
    | p :: q => (x :: p) :: q
    | [] => [[x]]
theorem cut_ne (c : UInt8) : ∀ l, cut c l ≠ [] := by
  intro l
  cases l with
  | nil => simp [cut]
  | cons x r =>
    unfold cut
    split
    · simp
    · split <;> simp
/-- What lies ahead of the first separator, and the pieces behind it. -/
theorem cut_cons (c : UInt8) (l : Bs) : ∃ p q, cut c l = p :: q := by
  cases h : cut c l with
  | nil => exact absurd h (cut_ne c l)
  | cons p q => exact ⟨p, q, rfl⟩
theorem cut_app (c : UInt8) : ∀ (p r : Bs), c ∉ p → cut c (p ++ c :: r) = p :: cut c r := by
  intro p
  induction p with
  | nil => intro r _; simp [cut]
  | cons x p ih =>
    intro r h
    simp only [List.mem_cons, not_or] at h
    have hx : ¬ x = c := fun e => h.1 e.symm
    simp only [List.cons_append, cut, if_neg hx, ih r h.2]
theorem cut_one (c : UInt8) : ∀ (p : Bs), c ∉ p → cut c p = [p] := by
  intro p
  induction p with
  | nil => intro _; rfl
  | cons x p ih =>
    intro h
    simp only [List.mem_cons, not_or] at h
    have hx : ¬ x = c := fun e => h.1 e.symm
    simp only [cut, if_neg hx, ih h.2]
/-- The program's words: the pieces that are not empty. -/
def words (l : Bs) : List Bs := (cut 32 l).filter (fun w => !w.isEmpty)
/-- A word's digits, from the left. -/
def digit (b : UInt8) : Bool := decide (48 ≤ b.toNat) && decide (b.toNat ≤ 57)
def valN (x : Nat) : Bs → Nat
  | [] => x
  | b :: r => valN (x * 10 + (b.toNat - 48)) r
def neg (w : Bs) : Bool := w.head? == some 45
def digs (w : Bs) : Bs := if neg w then w.tail else w
def isNum (w : Bs) : Bool := !(digs w).isEmpty && decide ((digs w).length ≤ 18) && (digs w).all digit && (!((digs w).head? == some 48) || w == [48])
def numV (w : Bs) : Int := if neg w then - ((valN 0 (digs w) : Nat) : Int) else ((valN 0 (digs w) : Nat) : Int)
def num (w : Bs) : Option Int := if isNum w then some (numV w) else none
theorem valN_nil (x : Nat) : valN x [] = x := by unfold valN; rfl
theorem valN_cons (x : Nat) (b : UInt8) (r : Bs) : valN x (b :: r) = valN (x * 10 + (b.toNat - 48)) r := by
  conv => lhs; unfold valN
theorem valN_lt : ∀ (l : Bs) (x : Nat), l.all digit = true → valN x l < (x + 1) * 10 ^ l.length := by
  intro l
  induction l with
  | nil => intro x _; rw [valN_nil, List.length_nil, Nat.pow_zero]; omega
  | cons b r ih =>
    intro x h
    rw [List.all_cons, Bool.and_eq_true] at h
    have hb := h.1
    unfold digit at hb
    simp only [Bool.and_eq_true, decide_eq_true_eq] at hb
    obtain ⟨y, hy⟩ : ∃ y, x * 10 + (b.toNat - 48) = y := ⟨_, rfl⟩
    have := ih y h.2
    rw [valN_cons, hy, List.length_cons, Nat.pow_succ]
    obtain ⟨z, hz⟩ : ∃ z, 10 ^ r.length = z := ⟨_, rfl⟩
    rw [hz] at this ⊢
    have h2 : (y + 1) * z ≤ ((x + 1) * 10) * z := Nat.mul_le_mul_right _ (by omega)
    rw [Nat.mul_assoc, Nat.mul_comm 10 z] at h2
    omega
structure Stp where
  kind : Int
  node : Int
  obj : Int
  i : Int
  j : Int
deriving DecidableEq
def nameOf (k : Nat) : Bs := match k with
  | 1 => [97, 99, 113, 117, 105, 114, 101]
  | 2 => [114, 101, 108, 101, 97, 115, 101]
  | 3 => [108, 111, 99, 97, 116, 101]
  | 4 => [116, 105, 99, 107]
  | 5 => [100, 101, 108, 105, 118, 101, 114]
  | 6 => [100, 111, 117, 98, 108, 101]
  | 7 => [100, 114, 111, 112]
  | 8 => [115, 97, 118, 101]
  | 9 => [97, 114, 109]
  | 10 => [111, 102, 102]
  | 11 => [111, 110]
  | _ => []
def names : List Bs := (List.range 11).map fun k => nameOf (k + 1)
/-- How many numbers a kind's line tells. -/
def arity (k : Nat) : Nat := match k with
  | 1 => 2 | 2 => 2 | 3 => 2 | 4 => 1 | 5 => 1 | 6 => 1 | 7 => 1 | 8 => 1 | 9 => 3 | 10 => 2 | 11 => 1 | _ => 2
def made (k : Nat) (x : List Int) : Stp := match k with
  | 1 | 2 | 3 => ⟨k, x.getD 0 0, x.getD 1 0, 0, 0⟩
  | 4 | 8 | 11 => ⟨k, x.getD 0 0, 0, 0, 0⟩
  | 5 | 6 | 7 => ⟨k, 0, 0, x.getD 0 0, 0⟩
  | 9 => ⟨k, x.getD 0 0, 0, x.getD 1 0, x.getD 2 0⟩
  | _ => ⟨k, x.getD 0 0, 0, 0, x.getD 1 0⟩
def nums : List Bs → Option (List Int)
  | [] => some []
  | w :: r => match num w with
    | none => none
    | some x => match nums r with
      | none => none
      | some y => some (x :: y)
def kindOf (w : Bs) : Nat := match names.findIdx? (· == w) with
  | some k => k + 1
  | none => 0
/-- The step of a line's words. -/
def lineR (ws : List Bs) : Option Stp := match ws with
  | [] => none
  | w :: r => if kindOf w = 0 then none else if r.length ≠ arity (kindOf w) then none else (nums r).map (made (kindOf w))
/-- The steps of lines, mx at most; ErrLine 50, ErrLong 3. -/
def parseL (mx : Nat) : List Bs → Nat → List Stp → List Stp × Nat × Int
  | [], _, out => (out, 0, 0)
  | l :: r, n, out => if words l = [] then parseL mx r (n + 1) out else match lineR (words l) with
    | none => ([], n, 50)
    | some s => if out.length = mx then ([], n, 3) else parseL mx r (n + 1) (out ++ [s])
def parse (mxT mx : Nat) (t : Bs) : List Stp × Nat × Int := if t.length > mxT then ([], 0, 3) else parseL mx (cut 10 t) 1 []
end Go.Sc
/- Plain laws of scripts: a word's number, as the library reads and writes it. -/
namespace Go.Sc
theorem digs_eq (w : Bs) : Lib.trimPrefix w [45] = digs w := by
  unfold Lib.trimPrefix Lib.hasPrefix digs neg
  cases w with
  | nil => simp
  | cons c r =>
    by_cases hc : c = 45
    · subst hc; simp
    · simp [hc]
      exact fun e => hc e.symm
def decS : Bs := [48, 49, 50, 51, 52, 53, 54, 55, 56, 57]
set_option maxRecDepth 100000 in
theorem decS_digit (b : UInt8) : decS.contains b = digit b := by
  have : ∀ n : Fin 256, decS.contains (UInt8.ofNat n) = digit (UInt8.ofNat n) := by decide
  have h := this ⟨b.toNat, UInt8.toNat_lt b⟩
  simpa using h
theorem dropWhile_nil {α : Type} (p : α → Bool) : ∀ l : List α, l.dropWhile p = [] ↔ l.all p = true := by
  intro l
  induction l with
  | nil => simp
  | cons x r ih =>
    by_cases hx : p x = true
    · simp [List.dropWhile, hx, ih]
    · simp [List.dropWhile, hx]
theorem dropWhile_all {α : Type} (p : α → Bool) : ∀ l : List α, (l.dropWhile p).all p = true ↔ l.all p = true := by
  intro l
  induction l with
  | nil => simp
  | cons x r ih =>
    by_cases hx : p x = true
    · simp [List.dropWhile, hx, ih]
    · simp [List.dropWhile, hx]
theorem trim_digits (d : Bs) : Lib.trimS d decS = [] ↔ d.all digit = true := by
  have e : (fun b => decS.contains b) = digit := funext decS_digit
  unfold Lib.trimS Lib.trimLeftS Lib.trimRightS
  rw [e, dropWhile_nil, List.all_reverse, dropWhile_all, List.all_reverse]
theorem parse_val : ∀ (l : Bs) (acc : Nat), l.all digit = true → (acc + 1) * 10 ^ l.length ≤ 10 ^ 18 → Lib.parseUint10 acc l = .ok (valN acc l) := by
  intro l
  induction l with
  | nil => intro acc _ _; rw [valN_nil]; rfl
  | cons b r ih =>
    intro acc h hb
    rw [List.all_cons, Bool.and_eq_true] at h
    have hd := h.1
    unfold digit at hd
    simp only [Bool.and_eq_true, decide_eq_true_eq] at hd
    rw [List.length_cons, Nat.pow_succ] at hb
    have hp : 1 ≤ 10 ^ r.length := Nat.one_le_pow _ _ (by decide)
    have h1 : (acc + 1) * 10 * 10 ^ r.length ≤ 10 ^ 18 := by rw [Nat.mul_assoc, Nat.mul_comm 10]; exact hb
    have h2 : (acc + 1) * 10 ≤ 10 ^ 18 := Nat.le_trans (Nat.le_mul_of_pos_right _ hp) h1
    have h3 : (acc * 10 + (b.toNat - 48) + 1) * 10 ^ r.length ≤ (acc + 1) * 10 * 10 ^ r.length := Nat.mul_le_mul_right _ (by omega)
    unfold Lib.parseUint10
    rw [if_pos hd, if_neg (by omega), if_neg (by omega), ih _ h.2 (Nat.le_trans h3 h1), valN_cons]
theorem isNum_parts {w : Bs} (h : isNum w = true) : digs w ≠ [] ∧ (digs w).length ≤ 18 ∧ (digs w).all digit = true ∧ ((digs w).head? = some 48 → w = [48]) := by
  unfold isNum at h
  simp only [Bool.and_eq_true, Bool.not_eq_true', decide_eq_true_eq, Bool.or_eq_true, beq_iff_eq] at h
  obtain ⟨⟨⟨h1, h2⟩, h3⟩, h4⟩ := h
  refine ⟨(fun e => by rw [e] at h1; cases h1), h2, h3, fun e => ?_⟩
  rcases h4 with h4 | h4
  · rw [e] at h4; simp at h4
  · exact h4
theorem valN_bound {d : Bs} (h : d.all digit = true) (hl : d.length ≤ 18) : valN 0 d < 10 ^ 18 := by
  have h1 := valN_lt d 0 h
  have h2 : 10 ^ d.length ≤ 10 ^ 18 := Nat.pow_le_pow_right (by decide) hl
  omega
theorem atoi_num {w : Bs} (h : isNum w = true) : Lib.atoiAll w = .ok (numV w) := by
  obtain ⟨h1, h2, h3, _⟩ := isNum_parts h
  have hv := valN_bound h3 h2
  have hp : Lib.parseMag (digs w) = .ok (valN 0 (digs w)) := by
    unfold Lib.parseMag
    rw [if_neg h1]
    refine parse_val _ _ h3 ?_
    have : 10 ^ (digs w).length ≤ 10 ^ 18 := Nat.pow_le_pow_right (by decide) h2
    omega
  cases w with
  | nil => exact absurd (by simp [digs, neg]) h1
  | cons c r =>
    unfold Lib.atoiAll
    by_cases hc : c = 45
    · subst hc
      have hd : digs (45 :: r) = r := by simp [digs, neg]
      have hn : neg (45 :: r) = true := by simp [neg]
      rw [hd] at hp hv
      have e45 : (45 : UInt8).toNat = 45 := rfl
      simp only [e45, or_true, if_true, hp]
      rw [if_neg (by omega), if_neg (by omega)]
      simp [numV, hn, hd]
    · have hn : neg (c :: r) = false := by simp [neg, hc]
      have hd : digs (c :: r) = c :: r := by simp [digs, hn]
      rw [hd] at hp hv h3
      have hc2 : ¬ c.toNat = 45 := fun e => hc (UInt8.toNat_inj.1 (by simpa using e))
      have hc3 : ¬ c.toNat = 43 := fun e => by
        rw [List.all_cons, Bool.and_eq_true] at h3
        have := h3.1
        unfold digit at this
        simp only [Bool.and_eq_true, decide_eq_true_eq] at this
        omega
      simp only [hc2, hc3, or_self, if_false, hp]
      rw [if_neg (by omega), if_neg (by omega)]
      simp [numV, hn, hd]
theorem num_some {w : Bs} (h1 : digs w ≠ []) (h2 : (digs w).length ≤ 18) (h3 : (digs w).all digit = true) (h4 : (digs w).head? = some 48 → w = [48]) : isNum w = true := by
  unfold isNum
  simp only [Bool.and_eq_true, Bool.not_eq_true', decide_eq_true_eq, Bool.or_eq_true, beq_iff_eq]
  refine ⟨⟨⟨by cases h : digs w <;> simp_all, h2⟩, h3⟩, ?_⟩
  by_cases h : (digs w).head? = some 48
  · exact .inr (h4 h)
  · left; simpa using h
theorem num_none {w : Bs} (h : ¬ (digs w ≠ [] ∧ (digs w).length ≤ 18 ∧ (digs w).all digit = true ∧ ((digs w).head? = some 48 → w = [48]))) : num w = none := by
  unfold num
  rw [if_neg]
  exact fun e => h (isNum_parts e)
theorem num_val {w : Bs} (h : isNum w = true) : num w = some (numV w) := by
  unfold num; rw [if_pos h]
theorem head_getD {d : Bs} (h : d ≠ []) : d.head? = some (d.getD 0 0) := by
  cases d with
  | nil => exact absurd rfl h
  | cons x r => rfl
end Go.Sc
namespace Go.Sc
/-- Where a field stands in a step. -/
def fidx (f : Int) : Nat := if f = 0 then 1 else if f = 1 then 2 else if f = 2 then 3 else 4
theorem fidx_le (f : Int) : fidx f + 1 ≤ 5 := by
  unfold fidx
  by_cases h0 : f = 0
  · simp [h0]
  by_cases h1 : f = 1
  · simp [h1]
  by_cases h2 : f = 2 <;> simp [h0, h1, h2]
def setF (s : Stp) (f x : Int) : Stp := if f = 0 then { s with node := x } else if f = 1 then { s with obj := x } else if f = 2 then { s with i := x } else { s with j := x }
def applyL : List Int → List Int → Stp → Stp
  | f :: fs, x :: xs, s => applyL fs xs (setF s f x)
  | _, _, s => s
theorem applyL_nil (fs : List Int) (s : Stp) : applyL fs [] s = s := by cases fs <;> rfl
theorem applyL_next : ∀ (fs xs : List Int) (s : Stp) (h : xs.length < fs.length) (x : Int), applyL fs (xs ++ [x]) s = setF (applyL fs xs s) fs[xs.length] x := by
  intro fs
  induction fs with
  | nil => intro xs s h; simp at h
  | cons f fs ih =>
    intro xs s h x
    cases xs with
    | nil => simp [applyL, applyL_nil]
    | cons y ys =>
      simp only [List.cons_append, applyL, List.length_cons, List.getElem_cons_succ]
      exact ih ys _ (by simpa using h) x
def fieldsL (k : Int) : List Int :=
  if k = 1 ∨ k = 2 ∨ k = 3 then [0, 1] else if k = 4 ∨ k = 8 ∨ k = 11 then [0] else if k = 5 ∨ k = 6 ∨ k = 7 then [2] else if k = 9 then [0, 2, 3] else [0, 3]
theorem kindOf_le (w : Bs) : kindOf w ≤ 11 := by
  unfold kindOf
  cases h : names.findIdx? (· == w) with
  | none => simp
  | some i =>
    have := (List.findIdx?_eq_some_iff_getElem.1 h).1
    have hl : names.length = 11 := rfl
    simp; omega
theorem kinds {k : Nat} (h0 : k ≠ 0) (h : k ≤ 11) : k = 1 ∨ k = 2 ∨ k = 3 ∨ k = 4 ∨ k = 5 ∨ k = 6 ∨ k = 7 ∨ k = 8 ∨ k = 9 ∨ k = 10 ∨ k = 11 := by omega
theorem fieldsL_len {k : Nat} (h0 : k ≠ 0) (h : k ≤ 11) : (fieldsL k).length = arity k := by
  rcases kinds h0 h with rfl | rfl | rfl | rfl | rfl | rfl | rfl | rfl | rfl | rfl | rfl <;> rfl
theorem fieldsL_le (k : Int) : (fieldsL k).length ≤ 3 := by
  unfold fieldsL
  by_cases h1 : k = 1 ∨ k = 2 ∨ k = 3
  · simp [h1]
  by_cases h2 : k = 4 ∨ k = 8 ∨ k = 11
  · simp [h1, h2]
  by_cases h3 : k = 5 ∨ k = 6 ∨ k = 7
  · simp [h1, h2, h3]
  by_cases h4 : k = 9 <;> simp [h1, h2, h3, h4]
theorem len1 {xs : List Int} (h : xs.length = 1) : ∃ a, xs = [a] := match xs, h with | [a], _ => ⟨a, rfl⟩
theorem len2 {xs : List Int} (h : xs.length = 2) : ∃ a b, xs = [a, b] := match xs, h with | [a, b], _ => ⟨a, b, rfl⟩
theorem len3 {xs : List Int} (h : xs.length = 3) : ∃ a b c, xs = [a, b, c] := match xs, h with | [a, b, c], _ => ⟨a, b, c, rfl⟩
theorem applyL_made {k : Nat} (h0 : k ≠ 0) (h : k ≤ 11) (xs : List Int) (hx : xs.length = arity k) : applyL (fieldsL k) xs ⟨k, 0, 0, 0, 0⟩ = made k xs := by
  rcases kinds h0 h with rfl | rfl | rfl | rfl | rfl | rfl | rfl | rfl | rfl | rfl | rfl
  · obtain ⟨a, b, rfl⟩ := len2 hx; rfl
  · obtain ⟨a, b, rfl⟩ := len2 hx; rfl
  · obtain ⟨a, b, rfl⟩ := len2 hx; rfl
  · obtain ⟨a, rfl⟩ := len1 hx; rfl
  · obtain ⟨a, rfl⟩ := len1 hx; rfl
  · obtain ⟨a, rfl⟩ := len1 hx; rfl
  · obtain ⟨a, rfl⟩ := len1 hx; rfl
  · obtain ⟨a, rfl⟩ := len1 hx; rfl
  · obtain ⟨a, b, c, rfl⟩ := len3 hx; rfl
  · obtain ⟨a, b, rfl⟩ := len2 hx; rfl
  · obtain ⟨a, rfl⟩ := len1 hx; rfl
theorem nums_app : ∀ (a b : List Bs), nums (a ++ b) = (match nums a with | none => none | some x => match nums b with | none => none | some y => some (x ++ y)) := by
  intro a
  induction a with
  | nil => intro b; simp [nums]; cases nums b <;> rfl
  | cons w r ih =>
    intro b
    simp only [List.cons_append, nums, ih]
    cases num w with
    | none => rfl
    | some x =>
      cases nums r with
      | none => rfl
      | some y => cases nums b <;> rfl
theorem nums_len : ∀ (a : List Bs) (x : List Int), nums a = some x → x.length = a.length := by
  intro a
  induction a with
  | nil => intro x h; simp [nums] at h; subst h; rfl
  | cons w r ih =>
    intro x h
    simp only [nums] at h
    cases hn : num w with
    | none => rw [hn] at h; cases h
    | some v =>
      rw [hn] at h
      cases hr : nums r with
      | none => rw [hr] at h; cases h
      | some y => rw [hr] at h; injection h with h; subst h; simp [ih _ hr]
theorem nums_next {a : List Bs} {i : Nat} {x : List Int} (hi : i < a.length) (h : nums (a.take i) = some x) : nums (a.take (i + 1)) = (num a[i]).map fun v => x ++ [v] := by
  rw [List.take_succ_eq_append_getElem hi, nums_app, h]
  simp only [nums]
  cases num a[i] <;> rfl
theorem nums_stop {a : List Bs} {i : Nat} (hi : i < a.length) (h : num a[i] = none) : nums a = none := by
  have e : a = a.take i ++ (a[i] :: a.drop (i + 1)) := by rw [← List.drop_eq_getElem_cons hi, List.take_append_drop]
  rw [e, nums_app]
  simp only [nums, h]
  cases nums (a.take i) <;> rfl
end Go.Sc
/- What a law is handed: plain values out of the memory, type by type. -/
namespace Go.T
open Go Go.RowKit

def NoE : AV → Value → Prop := fun _ _ => False
def InB (w : World) (b : Nat) : Prop := b < w.heap.size
/-- A value of type t in memory is read aas one of X. -/
def Opn (P : Program) (t : TypeId) (X : Type) (e : X → List AV) (V : X → Prop) : Prop :=
  ∀ (H : Type) (enc : TypeId × Value → H) (w : World) (spare : Nat → Bool) (held : Bool) (fuel : Nat) (cs : List Value) (x : DataW H × List MemPlace), DataW.trod enc P w 0 spare held fuel t cs = some x → (∀ n ∈ x.1.weights P t, n ≤ reachBytes) →
    ∃ y : X, V y ∧ (e y).length = cs.length ∧ ∀ j, j < cs.length → R w (InB w) NoE ((e y).getD j .undef) (cs.getD j undef) ∧ (cs.getD j undef).oneCell' = true
def OpnFs (P : Program) (k n : Nat) (fs : List Field) (X : Type) (e : X → List AV) (V : X → Prop) : Prop :=
  ∀ (H : Type) (enc : TypeId × Value → H) (w : World) (spare : Nat → Bool) (held : Bool) (fuel : Nat) (cs : List Value), cs.length = n →
    (∀ f ∈ fs, ∃ x : DataW H × List MemPlace, DataW.trod enc P w 0 spare held fuel f.type ((cs.drop f.offset).take (P.cellsOf f.type)) = some x ∧ ∀ n ∈ x.1.weights P f.type, n ≤ reachBytes) →
    ∃ y : X, V y ∧ k + (e y).length = n ∧ ∀ j, j < (e y).length → R w (InB w) NoE ((e y).getD j .undef) (cs.getD (k + j) undef) ∧ (cs.getD (k + j) undef).oneCell' = true

theorem weightsAll_mem {H : Type} {P : Program} {e : TypeId} {d : DataW H} {n : Nat} (hn : n ∈ d.weights P e) : ∀ {ds : List (DataW H)}, d ∈ ds → n ∈ DataW.weightsAll P e ds := by
  intro ds
  induction ds with
  | nil => intro h; cases h
  | cons x r ih =>
    intro h
    simp only [DataW.weightsAll, List.mem_append]
    rcases List.mem_cons.1 h with rfl | h
    · exact .inl hn
    · exact .inr (ih h)
section
variable {P : Program} {t : TypeId}
theorem Opn.int {k : IntKind} (ht : P.underlying t = some (.int k)) : Opn P t Int (fun n => [.int k n]) (fun n => (Lit.int k n).wf = true) := by
  intro H enc w spare held fuel cs x h _
  obtain ⟨n, rfl, _, hw⟩ := DataW.trod_int ht h
  refine ⟨n, hw, rfl, fun j hj => ?_⟩
  have : j = 0 := by simp at hj; omega
  subst this
  exact ⟨.int k n, rfl⟩
theorem Opn.bool (ht : P.underlying t = some .bool) : Opn P t Bool (fun b => [.bool b]) (fun _ => True) := by
  intro H enc w spare held fuel cs x h _
  obtain ⟨b, rfl, _⟩ := DataW.trod_bool ht h
  refine ⟨b, trivial, rfl, fun j hj => ?_⟩
  have : j = 0 := by simp at hj; omega
  subst this
  exact ⟨.bool b, rfl⟩
theorem Opn.str (ht : P.underlying t = some .string) : Opn P t ByteArray (fun s => [.str s]) (fun s => s.size ≤ maxLen) := by
  intro H enc w spare held fuel cs x h _
  obtain ⟨s, rfl, _, hs⟩ := DataW.trod_string ht h
  refine ⟨s, hs, rfl, fun j hj => ?_⟩
  have : j = 0 := by simp at hj; omega
  subst this
  exact ⟨.str s, rfl⟩

theorem Opn.iso {X Y : Type} {e : X → List AV} {V : X → Prop} {e' : Y → List AV} {V' : Y → Prop} (o : Opn P t X e V) (g : X → Y) (he : ∀ x, e' (g x) = e x) (hV : ∀ x, V x → V' (g x)) : Opn P t Y e' V' := by
  intro H enc w spare held fuel cs x h hw
  obtain ⟨y, h1, h2, h3⟩ := o H enc w spare held fuel cs x h hw
  exact ⟨g y, hV y h1, by rw [he]; exact h2, fun j hj => by rw [he]; exact h3 j hj⟩

/-- Cells aas one value. -/
def pack (g : Bool) (aas : List AV) : AV := if g then .agg aas else aas.getD 0 .undef

theorem cells_row {w : World} {a : Addr} {n : Nat} {cs : List Value} (h : w.cells? 0 a n = some cs) : cs.length = n ∧ ∀ i, i < n → w.cell? (a.add i) = some (cs.getD i undef) := by
  unfold World.cells? at h
  rw [if_pos (Nat.zero_le _)] at h
  have hl := mapM_some_length h
  simp at hl
  refine ⟨hl, fun i hi => ?_⟩
  have h2 := mapM_some_get h i i (by simp [hi])
  rw [h2]
  have : i < cs.length := by omega
  simp [this]

theorem list_choose {X : Type} {Q : Nat → X → Prop} : ∀ n, (∀ i, i < n → ∃ y, Q i y) → ∃ ys : List X, ys.length = n ∧ ∀ i, (hi : i < ys.length) → Q i ys[i] := by
  intro n
  induction n with
  | zero => intro _; exact ⟨[], rfl, fun i hi => by simp at hi⟩
  | succ n ih =>
    intro h
    obtain ⟨ys, h1, h2⟩ := ih (fun i hi => h i (by omega))
    obtain ⟨y, hy⟩ := h n (by omega)
    refine ⟨ys ++ [y], by simp [h1], fun i hi => ?_⟩
    rw [List.getElem_append]
    split
    · rename_i hlt; exact h2 i hlt
    · rename_i hge
      have : i = n := by simp at hi; omega
      subst this
      simpa using hy

theorem Opn.sliceW {el : TypeId} {sz : Nat} {X : Type} {e : X → List AV} {V : X → Prop} (ht : P.underlying t = some (.slice el)) (hc : P.cellsOf el = sz) (hs : 0 < sz) (g : Bool) (o : Opn P el X e V) (hp : ∀ x, V x → (pack g (e x)).cells = e x) :
    Opn P t (List X) (fun ys => [.l false sz (ys.map (fun x => pack g (e x)))]) (fun ys => (∀ x ∈ ys, V x) ∧ ys.length ≤ maxLen ∧ ys.length * P.bytesOf el ≤ reachBytes) := by
  intro H enc w spare held fuel cs x h hw
  rcases DataW.trod_slice ht h with ⟨rfl, _⟩ | ⟨a, len, cap, elems, rest, n, _, rfl, hx, _, hl, hm, hlen, hel, _, _⟩
  · refine ⟨[], ⟨fun x hx => by simp at hx, by simp, by simp⟩, rfl, fun j hj => ?_⟩
    have : j = 0 := by simp at hj; omega
    subst this
    exact ⟨.l0 _ _ _ _ (fun h => by simp at h), rfl⟩
  · rw [hc] at hel
    have hw1 : (elems.length + rest.length) * P.bytesOf el ≤ reachBytes := by
      refine hw _ ?_
      rw [hx]
      simp [DataW.weights, ht]
    have hw2 : ∀ i (hi : i < elems.length), ∀ n ∈ (elems[i]).1.weights P el, n ≤ reachBytes := by
      intro i hi n hn
      refine hw _ ?_
      rw [hx]
      simp only [DataW.weights, ht, List.mem_cons, List.mem_append]
      exact .inr (.inl (weightsAll_mem hn (List.mem_map.2 ⟨_, List.getElem_mem hi, rfl⟩)))
    have each : ∀ i, i < len → ∃ y : X, V y ∧ (e y).length = sz ∧ ∃ cs', w.cells? 0 (a.add (i * sz)) sz = some cs' ∧ cs'.length = sz ∧ ∀ j, j < sz → R w (InB w) NoE ((e y).getD j .undef) (cs'.getD j undef) ∧ (cs'.getD j undef).oneCell' = true := by
      intro i hi
      have h1 := hel i hi
      have h2 : i < elems.length := by omega
      rw [List.getElem?_eq_getElem h2] at h1
      rw [Option.bind_eq_some_iff] at h1
      obtain ⟨cs', hcs, htr⟩ := h1
      obtain ⟨y, g1, g2, g3⟩ := o H enc w spare held n cs' _ htr (hw2 i h2)
      have hl' := (cells_row hcs).1
      exact ⟨y, g1, by omega, cs', hcs, hl', fun j hj => g3 j (by omega)⟩
    obtain ⟨ys, hys, hq⟩ := list_choose len each
    refine ⟨ys, ⟨fun x hx => ?_, by omega, Nat.le_trans (Nat.mul_le_mul_right _ (by omega)) hw1⟩, rfl, fun j hj => ?_⟩
    · obtain ⟨i, hi, rfl⟩ := List.getElem_of_mem hx
      exact (hq i hi).1
    have : j = 0 := by simp at hj; omega
    subst this
    refine ⟨?_, rfl⟩
    show R w (InB w) NoE (.l false sz (ys.map (fun x => pack g (e x)))) (.slice (some a) len cap)
    by_cases h0 : len = 0
    · subst h0
      have : ys = [] := List.length_eq_zero_iff.1 hys
      subst this
      exact .l0 _ _ _ _ (fun h => by simp at h)
    have hy0 : ys ≠ [] := fun hE => by rw [hE] at hys; simp at hys; omega
    have cellAt : ∀ i j, (hi : i < ys.length) → j < sz → w.cell? ((a.add (i * sz)).add j) = some ((Classical.choose (hq i hi).2.2).getD j undef) := fun i j hi hj =>
      (cells_row (Classical.choose_spec (hq i hi).2.2).1).2 j hj
    have hlt : 0 < ys.length := by omega
    have hspot : a.spot = .none := by
      have := cellAt 0 0 hlt hs
      unfold World.cell? at this
      split at this
      · split at this
        · simp at this
        · rename_i hsp
          cases hc : a.spot with
          | none => rfl
          | some z => exact absurd (by simp [Addr.add, hc]) hsp
      · simp at this
    have hblk : a.block < w.heap.size := by
      have := cellAt 0 0 hlt hs
      unfold World.cell? at this
      split at this
      · rename_i hh
        have h9 := (Array.getElem?_eq_some_iff.1 hh).1
        cases hsp : a.spot <;> simpa [Addr.add, hsp] using h9
      · simp at this
    obtain ⟨ab, ao, asp⟩ := a
    simp only at hspot hblk
    subst hspot
    have hadd : ∀ i j, ((Addr.mk ab ao .none).add (i * sz)).add j = ⟨ab, ao + (i * sz + j), .none⟩ := fun i j => by
      by_cases h1 : i * sz = 0 <;> by_cases h2 : j = 0 <;> simp [Addr.add, h1, h2, Nat.add_assoc]
    have := R.l (w := w) (B := InB w) (E := NoE) false sz (ys.map (fun x => pack g (e x))) ab ao cap (fun i j => if hi : i < ys.length then (Classical.choose (hq i hi).2.2).getD j undef else undef) (by simpa using hy0) (fun h => by simp at h) (by simp; omega) hblk
      (fun i hi => by
        have hi' : i < ys.length := by simpa using hi
        simp only [List.getElem_map]
        rw [hp _ (hq i hi').1]; exact (hq i hi').2.1)
      (fun i j hi hj => by
        have hi' : i < ys.length := by simpa using hi
        simp only [hi', dif_pos]
        rw [← hadd]; exact cellAt i j hi' hj)
      (fun i j hi hj => by
        have hi' : i < ys.length := by simpa using hi
        simp only [hi', dif_pos, List.getElem_map]
        rw [hp _ (hq i hi').1]
        exact ((Classical.choose_spec (hq i hi').2.2).2.2 j hj).1)
      (fun i j hi hj => by
        have hi' : i < ys.length := by simpa using hi
        simp only [hi', dif_pos]
        exact ((Classical.choose_spec (hq i hi').2.2).2.2 j hj).2)
    rw [List.length_map, hys] at this
    exact this

theorem Opn.slice {el : TypeId} {sz : Nat} {X : Type} {e : X → List AV} {V : X → Prop} (ht : P.underlying t = some (.slice el)) (hc : P.cellsOf el = sz) (hs : 0 < sz) (g : Bool) (o : Opn P el X e V) (hp : ∀ x, V x → (pack g (e x)).cells = e x) :
    Opn P t (List X) (fun ys => [.l false sz (ys.map (fun x => pack g (e x)))]) (fun ys => (∀ x ∈ ys, V x) ∧ ys.length ≤ maxLen) :=
  (Opn.sliceW ht hc hs g o hp).iso id (fun _ => rfl) (fun _ h => ⟨h.1, h.2.1⟩)

theorem Opn.struct {fs : Array Field} {n : Nat} {X : Type} {e : X → List AV} {V : X → Prop} (ht : P.underlying t = some (.struct fs)) (hc : P.cellsOf t = n) (o : OpnFs P 0 n fs.toList X e V) : Opn P t X e V := by
  intro H enc w spare held fuel cs x h hw
  obtain ⟨xs, m, rfl, hx0, hl, hx, hf⟩ := DataW.trod_struct ht h
  obtain ⟨y, h1, h2, h3⟩ := o H enc w spare held m cs (by omega) (fun f hfm => by
    obtain ⟨i, hi, rfl⟩ := List.getElem_of_mem hfm
    have hi' : i < fs.size := by simpa using hi
    have h1 := hf i fs[i] (by simp [hi'])
    have h2 : i < xs.length := by omega
    rw [List.getElem?_eq_getElem h2] at h1
    refine ⟨_, by simpa using h1, fun n hn => hw n ?_⟩
    rw [hx0]
    simp only [DataW.weights, ht]
    exact DataW.weights_mem_each (j := i) (t := fs.toList[i].type) (d := (xs[i]).1) (by simp [hi']) (by simp [h2]) n hn)
  exact ⟨y, h1, by omega, fun j hj => by have := h3 j (by omega); simpa using this⟩
theorem OpnFs.nil (n : Nat) : OpnFs P n n [] Unit (fun _ => []) (fun _ => True) :=
  fun _ _ _ _ _ _ _ _ _ => ⟨(), trivial, rfl, fun j hj => by simp at hj⟩
theorem OpnFs.cons {k n m : Nat} {f : Field} {r : List Field} {X Y : Type} {e : X → List AV} {V : X → Prop} {e' : Y → List AV} {V' : Y → Prop} (hk : f.offset = k) (hm : P.cellsOf f.type = m) (hn : k + m ≤ n)
    (o : Opn P f.type X e V) (o' : OpnFs P (k + m) n r Y e' V') : OpnFs P k n (f :: r) (X × Y) (fun y => e y.1 ++ e' y.2) (fun y => V y.1 ∧ V' y.2) := by
  intro H enc w spare held fuel cs hcs hf
  obtain ⟨x, hx, hxw⟩ := hf f (by simp)
  obtain ⟨y1, g1, g2, g3⟩ := o H enc w spare held fuel _ x hx hxw
  obtain ⟨y2, k1, k2, k3⟩ := o' H enc w spare held fuel cs hcs (fun g hg => hf g (by simp [hg]))
  have hlen : ((cs.drop f.offset).take (P.cellsOf f.type)).length = m := by simp [hk, hm]; omega
  have hsub : ∀ j, j < m → ((cs.drop f.offset).take (P.cellsOf f.type)).getD j undef = cs.getD (k + j) undef := fun j hj => by
    simp [List.getD_eq_getElem?_getD, hk, hm, hj]
  refine ⟨(y1, y2), ⟨g1, k1⟩, by simp; omega, fun j hj => ?_⟩
  simp only [List.length_append] at hj
  by_cases hjm : j < m
  · have e1 : (e y1 ++ e' y2).getD j .undef = (e y1).getD j .undef := by
      rw [List.getD_eq_getElem?_getD, List.getElem?_append_left (by omega), ← List.getD_eq_getElem?_getD]
    have := g3 j (by omega)
    rw [hsub j hjm] at this
    rw [e1]; exact this
  · have e1 : (e y1 ++ e' y2).getD j .undef = (e' y2).getD (j - m) .undef := by
      rw [List.getD_eq_getElem?_getD, List.getElem?_append_right (by omega), ← List.getD_eq_getElem?_getD, g2, hlen]
    have := k3 (j - m) (by omega)
    have e2 : k + m + (j - m) = k + j := by omega
    rw [e2] at this
    rw [e1]; exact this
end

/-- The heap that knows of nothing but of package variables that are only read. -/
def Hp0 (g : Nat → Option (List AV)) : Hp := ⟨fun L => if L.f = glF ∧ L.k = 0 then (match g L.s with | some cs => .gl cs | .none => .none) else .none, fun f _ => if f = glF then 1 else 0, fun L hL => by
  by_cases h : L.f = glF ∧ L.k = 0
  · rw [if_pos h.1, h.2] at hL; omega
  · rw [if_neg h]⟩
def Env0 : Env := ⟨fun L => if L.f = glF then ⟨L.s, 0, .none⟩ else default, fun _ => undef⟩
/-- The package variables hold what g says. -/
def TabW (g : Nat → Option (List AV)) (w : World) : Prop := ∀ i cs, g i = some cs → ∃ vs T f, w.heap[i]? = some (.cells vs T f) ∧ vs.size = cs.length ∧ ∀ j, j < cs.length → R w (InB w) (fun _ _ => False) (cs.getD j .undef) (vs.getD j undef)
def TabH (g : Nat → Option (List AV)) (h : Hp) : Prop := ∀ i cs, g i = some cs → h.con (glL i) = .gl cs
theorem has0 {g : Nat → Option (List AV)} {L : Lab} (h : Env0.has (Hp0 g) L) : False := by
  have h2 := h.2
  simp only [Hp0] at h2
  by_cases hc : L.f = glF ∧ L.k = 0
  · rw [if_pos hc] at h2
    cases hg : g L.s <;> rw [hg] at h2 <;> exact h2
  · rw [if_neg hc] at h2; exact h2
theorem TabH0 (g : Nat → Option (List AV)) : TabH g (Hp0 g) := fun i cs h => by simp [Hp0, glL, h]
theorem HRel0 (w : World) (g : Nat → Option (List AV)) (hg : TabW g w) : HRel w (InB w) Env0 (Hp0 g) := by
  refine ⟨fun L hk => ?_, fun L L' hL _ _ => (has0 hL).elim, fun b hb => hb, fun i => ⟨by simp [Hp0], by simp [Env0, glL]⟩⟩
  simp only [Hp0]
  by_cases hc : L.f = glF ∧ L.k = 0
  · rw [if_pos hc]
    cases h : g L.s with
    | none => trivial
    | some cs =>
      obtain ⟨vs, T, f, h1, h2, h3⟩ := hg _ _ h
      have hb : Env0.β L = ⟨L.s, 0, .none⟩ := by simp [Env0, hc.1]
      refine ⟨?_, by rw [hb], vs, T, f, by rw [hb]; exact h1, h2, fun j hj => (h3 j hj).mono (fun _ _ => rfl) (fun _ hb => hb) (fun _ _ he => he.elim)⟩
      rw [hb]
      exact (Array.getElem?_eq_some_iff.1 h1).1
  · rw [if_neg hc]; trivial
theorem Opn.arg {P : Program} {t : TypeId} {X : Type} {a : X → AV} {V : X → Prop} (o : Opn P t X (fun x => [a x]) V) {H : Type} {enc : TypeId × Value → H} {w : World} {spare : Nat → Bool} {held : Bool} {v : Value} {d : DataW H} {p : List MemPlace}
    (hv : v.cells = #[v]) (h : DataW.Trod enc P w 0 spare held t v d p) (hw : ∀ n ∈ d.weights P t, n ≤ reachBytes) : ∃ y : X, V y ∧ ∀ E, R w (InB w) E (a y) v := by
  obtain ⟨fuel, h⟩ := h
  obtain ⟨y, h1, _, h3⟩ := o H enc w spare held fuel _ _ h hw
  rw [hv] at h3
  exact ⟨y, h1, fun E => (h3 0 (by simp)).1.mono (fun _ _ => rfl) (fun _ hb => hb) (fun _ _ he => he.elim)⟩
theorem Ext0.below {w w' : World} {g : Nat → Option (List AV)} {B' : Nat → Prop} {e' : Env} {h' : Hp} (x : Ext w (InB w) Env0 (Hp0 g) w' B' e' h') : Below w.heap.size w w' :=
  ⟨x.os, x.tape, x.output, x.size, fun k hk => x.keep k hk (fun _ hL => (has0 hL).elim)⟩
/-- **A law that answers true**, where package variables hold what g says. -/
theorem law_callsT {P : Program} {f : FuncId} {args : List AV} (g : Nat → Option (List AV)) (hp : ∀ h, TabH g h → CallK P f args h (fun r _ => r = .bool true)) (w : World) (hg : TabW g w) (vs : Array Value) (hs : vs.size = args.length) (hR : ∀ i, i < args.length → ∀ E, R w (InB w) E (args.getD i .un) (vs.getD i undef)) :
    Calls P f vs w (fun e w' => e = .returned (.bool true) ∧ Below w.heap.size w w') := by
  refine (hp (Hp0 g) (TabH0 g) w (InB w) Env0 vs (HRel0 w g hg) hs (fun i hi => hR i hi _)).mono ?_
  rintro en w' ⟨v, r, h', B', e', rfl, g2, g3, g4, rfl⟩
  have := R_bool g4
  subst this
  exact ⟨rfl, Ext0.below g3⟩
end Go.T
