/- Part of a proof: a small logic of programs over plain values, shown sound for the given machine. -/
import Derived.Test.YtmajndgdfmnchaaT1
import Derived.OrdersIn
import Derived.RangeFuncNested
import Derived.RangeFuncRecord
import Derived.IntWalk
/- Soundness, sixteenth part: regions in any order of their operations; code; functions. -/
namespace Go.T
open Go


theorem calls_in {P : Program} {f : FuncId} {args : Array Value} {w : World} {R : Ending → World → Prop} (r : Option Nat) (m : Nat) (h : Calls P f args w R) : CallsIn (wr r) m P f args w R :=
  (callsIn_wide (n := m)).2 h

/-- One operation, its guard asked. -/
def stepT (P : Program) (fid : Nat) (ops : List Oper) (tg : Tg) (o : Oper) (st : St) (K : St → Prop) : Prop :=
  guardG o.guard (opT P fid tg o st K)
    (fun j want => guardO ((ops[j]?).bind (·.dst)) fun d => guardK (st.slots d) want
      (opT P fid tg o (st.put (some d) (.bool want)) K)
      (K ((st.put (some d) (.bool (!want))).put o.dst .un))
      (K (st.put o.dst .un)))

/-- The operations in an order of their numbers. -/
def runL (P : Program) (fid : Nat) (ops : List Oper) (tg : Nat → Tg) : List Nat → St → (St → Prop) → Prop
  | [], st, K => K st
  | i :: r, st, K =>
    match ops[i]? with
    | none => runL P fid ops tg r st K
    | some o => stepT P fid ops (tg i) o st (fun st' => runL P fid ops tg r st' K)

/-- What is shown beside an operation comes to the operation. -/
theorem opT_opK {P : Program} {fid : Nat} {tg : Tg} {o : Oper} {st : St} {K : St → Prop} (h : opT P fid tg o st K) : opK P fid o st K := by
  cases tg with
  | plain => exact h
  | blk => exact h.2
  | avoid ss => exact h.2
  | mine => exact h.2
  | pure =>
    obtain ⟨d, op, ty, ps, af, g⟩ := o
    simp only [opT] at h
    unfold pureO at h
    split at h
    · rename_i f args ats
      unfold pureK at h
      split at h
      · rename_i g caps hf
        obtain ⟨h1, v, h2, h3⟩ := h
        unfold opK calleeK callV
        simp only [Callee.ev, hf]
        refine ⟨h1, fun w B e vs q1 q2 q3 => (h2 st.hp w B e vs q1 q2 q3).mono ?_⟩
        rintro en w' ⟨v', r, h', B', e', g1, g2, g3, g4, rfl, rfl⟩
        exact ⟨v', r, st.hp, B', e', g1, g2, g3, g4, h3⟩
      · exact h.elim
    · exact h.elim

def toEx : Exit → Option Ex
  | .normal => some .normal
  | .exit id => some (.exit id)
  | .ret => some .ret
  | _ => none

/-- The machine's side of an abstract postcondition. -/
def Qm (w0 : World) (B0 : Nat → Prop) (e0 : Env) (h0 : Hp) (n : Nat) (ds : List Deferred) (Q : Ex → St → Prop) (e : Exit) (a : Act) (w : World) : Prop :=
  ∃ x, toEx e = some x ∧ Nx w0 B0 e0 h0 n ds (Q x) a w

section
variable {P : Program} {w0 : World} {B0 : Nat → Prop} {e0 : Env} {h0 : Hp} {n : Nat} {ds : List Deferred}

theorem opK_noDefer {fid : Nat} {o : Oper} {st : St} {K : St → Prop} (h : opK P fid o st K) : ∀ c, o.op ≠ .defer c := by
  intro c hc
  unfold opK at h
  rw [hc] at h
  exact h

theorem op_wp {fid : Nat} {o : Oper} {st : St} {a : Act} {w : World} {B : Nat → Prop} {e : Env} (r : Option Nat) (m : Nat) {K : St → Prop} {next : Act → World → Prop} {Q : Exit → Act → World → Prop}
    (hr : Rel w B e n st a) (hx : Ext w0 B0 e0 h0 w B e st.hp) (hds : a.defers = ds) (hd : ∀ x, o.dst = some x → x < n) (hK : opK P fid o st K)
    (hn : ∀ a' w', Nx w0 B0 e0 h0 n ds K a' w' → next a' w') : o.wpIn (wr r) m P a w next Q := by
  refine ⟨fun _ _ => trivial, ?_⟩
  rw [Oper.semAt_eq _ _ _ (opK_noDefer hK)]
  have hf := opK_sound fid o hr hx hds hd hK
  revert hf
  generalize (execOp a.eval o).run P w = res
  intro hf
  cases res with
  | halt h w' => exact hf.elim
  | ok nx w' =>
    cases nx <;> try exact hf.elim
    · exact hn _ _ hf
    · exact hn _ _ hf
    · rename_i f args
      refine ⟨fun hh => by simp [wr, Fence.wide] at hh, calls_in r _ (Calls.mono hf fun en w'' hR => ?_)⟩
      cases en with
      | returned v => exact hn _ _ hR
      | panicked c => exact hR.elim
      | outgrown => exact hR.elim
    · rename_i l f tmps asg body
      refine ⟨fun hh => by simp [wr, Fence.wide] at hh, (hf r (m - 1)).mono fun en w'' hR => ?_⟩
      cases en with
      | returned v => exact hn _ _ hR
      | panicked c => exact hR.elim
      | outgrown => exact hR.elim

theorem Rel.putSame {w : World} {B : Nat → Prop} {e : Env} {st : St} {a : Act} (hr : Rel w B e n st a) (d : Nat) (av : AV) (hv : R w B (e.E st.hp) av (a.tmps.getD d undef)) : Rel w B e n (st.put (some d) av) a := by
  refine ⟨by rw [put_hp]; exact hr.hp, fun i => ?_, hr.size⟩
  rw [put_slots, put_hp]
  by_cases hi : i = d
  · subst hi; rw [if_pos rfl]; exact hv
  · rw [if_neg hi]; exact hr.slots i

theorem yielded_bool {ops : Array Oper} {tmps : Array Value} {j d : Nat} {b : Bool} (hj : (ops[j]?).bind (·.dst) = some d) (ht : tmps.getD d undef = .bool b) : yielded ops tmps j = some b := by
  unfold yielded
  rw [hj]
  have : tmps[d]? = some (.bool b) := by
    rcases Nat.lt_or_ge d tmps.size with h | h
    · simp [h] at ht ⊢; exact ht
    · simp [Array.getElem?_eq_none h] at ht
      cases ht
  simp [this]

theorem yielded_un {ops : Array Oper} {tmps : Array Value} {j d : Nat} (hj : (ops[j]?).bind (·.dst) = some d) (ht : tmps.getD d undef = undef) : yielded ops tmps j = none := by
  unfold yielded
  rw [hj]
  simp only [Option.bind_some]
  cases h : tmps[d]? with
  | none => rfl
  | some v =>
    have : v = undef := by simpa [h] using ht
    subst this
    rfl

theorem step_wp {fid : Nat} (ops : Array Oper) (hd : ∀ o ∈ ops.toList, ∀ x, o.dst = some x → x < n) (r : Option Nat) (m : Nat) {Q : Exit → Act → World → Prop} {tg : Tg} {i : Nat} {o : Oper} (ho : ops[i]? = some o) {st : St} {a : Act} {w : World} {B : Nat → Prop} {e : Env} {K : St → Prop} {next : Act → World → Prop}
    (hr : Rel w B e n st a) (hx : Ext w0 B0 e0 h0 w B e st.hp) (hds : a.defers = ds) (h : stepT P fid ops.toList tg o st K) (again : ∀ a' w', Nx w0 B0 e0 h0 n ds K a' w' → next a' w') :
    if Region.wanted o (yielded ops a.tmps) then o.wpIn (wr r) m P a w next Q else (∀ f, o.about P w a.eval = some f → (wr r).fn f) ∧ next (a.put o.dst undef) w := by
  have hmem : o ∈ ops.toList := by
    have : ops.toList[i]? = some o := by simpa using ho
    exact List.mem_of_getElem? this
  have hdo := hd o hmem
  unfold stepT guardG at h
  split at h
  · rename_i hg
    have hw : Region.wanted o (yielded ops a.tmps) = true := by simp [Region.wanted, hg]
    rw [if_pos hw]
    exact op_wp r m hr hx hds hdo (opT_opK h) again
  · rename_i j want hg
    unfold guardO at h
    split at h
    · rename_i d hj
      have hj' : (ops[j]?).bind (·.dst) = some d := by simpa using hj
      unfold guardK at h
      split at h
      · rename_i b hb
        have hv := hr.slots d
        rw [hb] at hv
        have hv' := R_bool hv
        have hy := yielded_bool hj' hv'
        by_cases hbw : b = want
        · have hw : Region.wanted o (yielded ops a.tmps) = true := by simp [Region.wanted, hg, hy, hbw]
          rw [if_pos hw]
          exact op_wp r m (hr.putSame d (.bool want) (by rw [← hbw]; exact hv)) (by rw [put_hp]; exact hx) hds hdo (opT_opK (h.1 hbw)) again
        · have hw : ¬ Region.wanted o (yielded ops a.tmps) = true := by simp [Region.wanted, hg, hy, hbw]
          rw [if_neg hw]
          have hbn : b = !want := by cases b <;> cases want <;> simp_all
          have hr2 := hr.putSame d (.bool (!want)) (by rw [← hbn]; exact hv)
          refine ⟨fun _ _ => trivial, again _ _ ?_⟩
          exact Nx.value hr2 (by rw [put_hp]; exact hx) hds hdo .un (h.2 hbn)
      · rename_i hb
        have hv := hr.slots d
        rw [hb] at hv
        have hy := yielded_un hj' (R_un hv)
        have hw : ¬ Region.wanted o (yielded ops a.tmps) = true := by simp [Region.wanted, hg, hy]
        rw [if_neg hw]
        exact ⟨fun _ _ => trivial, again _ _ (Nx.value hr hx hds hdo .un h)⟩
      · exact h.elim
    · exact h.elim

theorem runL_sound {fid : Nat} (ops : Array Oper) (hd : ∀ o ∈ ops.toList, ∀ x, o.dst = some x → x < n) (r : Option Nat) (m : Nat) {Q : Ex → St → Prop} {tg : Nat → Tg} : ∀ (σ : List Nat) (st : St) (a : Act) (w : World) (B : Nat → Prop) (e : Env),
    Rel w B e n st a → Ext w0 B0 e0 h0 w B e st.hp → a.defers = ds → runL P fid ops.toList tg σ st (Q .normal) → wpOpsIn (wr r) m P ops (Qm w0 B0 e0 h0 n ds Q) σ a w := by
  intro σ
  induction σ with
  | nil => intro st a w B e hr hx hds h; exact ⟨.normal, rfl, st, B, e, h, hr, hx, hds⟩
  | cons i σ ih =>
    intro st a w B e hr hx hds h
    have again : ∀ a' w', Nx w0 B0 e0 h0 n ds (fun st' => runL P fid ops.toList tg σ st' (Q .normal)) a' w' → wpOpsIn (wr r) m P ops (Qm w0 B0 e0 h0 n ds Q) σ a' w' := by
      rintro a' w' ⟨st', B', e', h1, h2, h3, h4⟩
      exact ih st' a' w' B' e' h2 h3 h4 h1
    simp only [runL] at h
    simp only [wpOpsIn]
    have hoe : ops.toList[i]? = ops[i]? := by simp
    rw [hoe] at h
    cases ho : ops[i]? with
    | none => rw [ho] at h; exact ih st a w B e hr hx hds h
    | some o =>
      rw [ho] at h
      exact step_wp ops hd r m ho hr hx hds h again

/-- The tag of the i-th operation. -/
def tagAt (tg : List Tg) (i : Nat) : Tg := match tg[i]? with
  | some t => t
  | none => .plain
theorem tagAt_zero (tg : List Tg) : headT tg = tagAt tg 0 := by cases tg <;> rfl
theorem tagAt_succ (tg : List Tg) (i : Nat) : tagAt (tailT tg) i = tagAt tg (i + 1) := by cases tg <;> simp [tailT, tagAt]

theorem opsK_eq {fid : Nat} {K : St → Prop} (tg : Nat → Tg) : ∀ (rest pre : List Oper) (tl : List Tg) (st : St), (∀ i, tagAt tl i = tg (pre.length + i)) → (∀ i o j b, (rest[i]? = some o) → o.guard = some (j, b) → j < pre.length + i) →
    opsK P fid tl (pre.map (·.dst)) rest st K = runL P fid (pre ++ rest) tg (List.range' pre.length rest.length) st K := by
  intro rest
  induction rest with
  | nil => intro pre tl st _ _; simp [opsK, runL]
  | cons o rest ih =>
    intro pre tl st ht hg
    have hnext : ∀ st', opsK P fid (tailT tl) (pre.map (·.dst) ++ [o.dst]) rest st' K = runL P fid (pre ++ o :: rest) tg (List.range' (pre.length + 1) rest.length) st' K := by
      intro st'
      have := ih (pre ++ [o]) (tailT tl) st' (fun i => by rw [tagAt_succ, ht]; congr 1; simp; omega) (fun i o' j b h1 h2 => by have := hg (i + 1) o' j b (by simpa using h1) h2; simp; omega)
      simpa using this
    have hget : (pre ++ o :: rest)[pre.length]? = some o := by simp
    have htag : headT tl = tg pre.length := by rw [tagAt_zero, ht]; rfl
    simp only [opsK, List.length_cons, List.range'_succ, runL, hget, stepT]
    simp only [hnext, htag]
    cases hgu : o.guard with
    | none => rfl
    | some p =>
      obtain ⟨j, want⟩ := p
      have hj := hg 0 o j want (by simp) hgu
      have : (pre.map (·.dst)).getD j none = ((pre ++ o :: rest)[j]?).bind (·.dst) := by
        have hjl : j < pre.length := by omega
        simp [List.getElem?_append_left, hjl]
      simp only [guardG, this]

end

theorem YieldK.mono {P : Program} {L : Lab} {args : List AV} {h : Hp} {K K' : AV → Hp → Prop} (hc : YieldK P L args h K) (hk : ∀ r h', K r h' → K' r h') : YieldK P L args h K' := by
  intro w B e vs h1 h2 h3 h4
  obtain ⟨f, tmps, asg, body, g1, g2⟩ := hc w B e vs h1 h2 h3 h4
  refine ⟨f, tmps, asg, body, g1, fun r m => (g2 r m).mono ?_⟩
  rintro en w' ⟨v, r', h', B', e', q1, q2, q3, q4, q5⟩
  exact ⟨v, r', h', B', e', q1, q2, q3, q4, hk _ _ q5⟩
theorem CallK.mono {P : Program} {f : Nat} {args : List AV} {h : Hp} {K K' : AV → Hp → Prop} (hc : CallK P f args h K) (hk : ∀ r h', K r h' → K' r h') : CallK P f args h K' :=
  fun w B e vs h1 h2 h3 => (hc w B e vs h1 h2 h3).mono fun _ _ ⟨v, r, h', B', e', g1, g2, g3, g4, g5⟩ => ⟨v, r, h', B', e', g1, g2, g3, g4, hk _ _ g5⟩

end Go.T
/- What an operation hangs on: its operands, and of the heap what it reads; operations apart may change places. -/
namespace Go.T
open Go

/-- An answer that is one, and hangs on nothing else. -/
def Fn {α : Type} (F : (α → Prop) → Prop) : Prop := ∀ K : α → Prop, F K → ∃ v, K v ∧ ∀ K' : α → Prop, K' v → F K'

theorem fn_loadC {c : Con} {g : Bool} {n sz i j : Nat} : Fn (fun K => loadC c g n sz i j K) := by
  intro K h
  unfold loadC at h
  cases c with
  | blk cs => exact ⟨_, h.2.2.2, fun K' h' => by unfold loadC; exact ⟨h.1, h.2.1, h.2.2.1, h'⟩⟩
  | arr sz' xs => obtain ⟨h1, hi, h2, h3, h4⟩ := h; exact ⟨_, h4, fun K' h' => by unfold loadC; exact ⟨h1, hi, h2, h3, h'⟩⟩
  | none => exact h.elim
  | mp _ _ => exact h.elim
  | lp _ _ _ _ _ _ => exact h.elim
theorem fn_loadK {h : Hp} {g : Bool} {n : Nat} {a : AV} : Fn (fun K => loadK h g n a K) := by
  intro K hk
  unfold loadK at hk
  split at hk
  · exact ⟨_, hk.2.2, fun K' h' => by unfold loadK; exact ⟨hk.1, hk.2.1, h'⟩⟩
  · obtain ⟨v, h1, h2⟩ := fn_loadC K hk
    exact ⟨v, h1, fun K' h' => by unfold loadK; exact h2 K' h'⟩
  · exact hk.elim
theorem fn_pickK {c a b : AV} : Fn (fun K => pickK c a b K) := by
  intro K hk
  unfold pickK at hk
  split at hk
  · exact ⟨_, hk, fun K' h' => by unfold pickK; exact h'⟩
  · exact hk.elim
theorem fn_nilCheckK {x : AV} : Fn (fun K => nilCheckK x K) := by
  intro K hk
  unfold nilCheckK at hk
  split at hk
  · exact ⟨_, hk, fun K' h' => by unfold nilCheckK; exact h'⟩
  · exact ⟨_, hk, fun K' h' => by unfold nilCheckK; exact h'⟩
  · exact hk.elim
theorem fn_extractK {x : AV} {i : Nat} : Fn (fun K => extractK x i K) := by
  intro K hk
  unfold extractK at hk
  split at hk
  · obtain ⟨hi, hk⟩ := hk; exact ⟨_, hk, fun K' h' => by unfold extractK; exact ⟨hi, h'⟩⟩
  · exact hk.elim
theorem fn_convK {s d : TK} {x : AV} : Fn (fun K => convK s d x K) := by
  intro K hk
  unfold convK at hk
  split at hk
  · exact ⟨_, hk, fun K' h' => by unfold convK; exact h'⟩
  · exact hk.elim
theorem fn_unK {op : UnOp} {x : AV} : Fn (fun K => unK op x K) := by
  intro K hk
  unfold unK at hk
  split at hk
  · exact ⟨_, hk, fun K' h' => by unfold unK; exact h'⟩
  · exact ⟨_, hk, fun K' h' => by unfold unK; exact h'⟩
  · exact ⟨_, hk, fun K' h' => by unfold unK; exact h'⟩
  · exact hk.elim
theorem fn_fieldAddrK {off : Nat} {a : AV} : Fn (fun K => fieldAddrK off a K) := by
  intro K hk
  unfold fieldAddrK at hk
  split at hk
  · exact ⟨_, hk, fun K' h' => by unfold fieldAddrK; exact h'⟩
  · exact ⟨_, hk, fun K' h' => by unfold fieldAddrK; exact h'⟩
  · exact hk.elim
theorem fn_fieldAddrO {o : Option (Nat × Nat × TypeId)} {a : AV} : Fn (fun K => fieldAddrO o a K) := by
  intro K hk
  unfold fieldAddrO at hk
  split at hk
  · obtain ⟨v, h1, h2⟩ := fn_fieldAddrK K hk; exact ⟨v, h1, fun K' h' => by unfold fieldAddrO; exact h2 K' h'⟩
  · exact hk.elim
theorem fn_fieldO {P : Program} {o : Option (Nat × Nat × TypeId)} {a : AV} : Fn (fun K => fieldO P o a K) := by
  intro K hk
  unfold fieldO at hk
  split at hk
  · exact ⟨_, hk.2, fun K' h' => by unfold fieldO; exact ⟨hk.1, h'⟩⟩
  · exact hk.elim
theorem fn_indexK {o : Option (Nat × Bool)} {m : Nat} {x ix : AV} : Fn (fun K => indexK o m x ix K) := by
  intro K hk
  unfold indexK at hk
  split at hk
  · split at hk
    · exact ⟨_, hk.2.2.2.2, fun K' h' => by unfold indexK; exact ⟨hk.1, hk.2.1, hk.2.2.1, hk.2.2.2.1, h'⟩⟩
    · obtain ⟨h1, hi, hk⟩ := hk; exact ⟨_, hk, fun K' h' => by unfold indexK; exact ⟨h1, hi, h'⟩⟩
    · exact hk.elim
  · exact hk.elim
theorem fn_indexO {P : Program} {k : TK} {x ix : AV} : Fn (fun K => indexO P k x ix K) := by
  intro K hk
  unfold indexO at hk
  split at hk
  · obtain ⟨v, h1, h2⟩ := fn_indexK K hk.2; exact ⟨v, h1, fun K' h' => by unfold indexO; exact ⟨hk.1, h2 K' h'⟩⟩
  · obtain ⟨v, h1, h2⟩ := fn_indexK K hk; exact ⟨v, h1, fun K' h' => by unfold indexO; exact h2 K' h'⟩
  · exact hk.elim
theorem fn_indexC {c : Con} {L : Lab} {m : Nat} {i : Int} : Fn (fun K => indexC c L m i K) := by
  intro K hk
  unfold indexC at hk
  split at hk
  · exact ⟨_, hk.2.2.2, fun K' h' => by unfold indexC; exact ⟨hk.1, hk.2.1, hk.2.2.1, h'⟩⟩
  · exact hk.elim
theorem fn_indexAddrK {h : Hp} {o : Option Nat} {m : Nat} {x ix : AV} : Fn (fun K => indexAddrK h o m x ix K) := by
  intro K hk
  unfold indexAddrK at hk
  split at hk
  · split at hk
    · exact ⟨_, hk.2.2, fun K' h' => by unfold indexAddrK; exact ⟨hk.1, hk.2.1, h'⟩⟩
    · exact ⟨_, hk.2.2, fun K' h' => by unfold indexAddrK; exact ⟨hk.1, hk.2.1, h'⟩⟩
    · obtain ⟨h1, h2, hi, hk⟩ := hk; exact ⟨_, hk, fun K' h' => by unfold indexAddrK; exact ⟨h1, h2, hi, h'⟩⟩
    · obtain ⟨v, h1, h2⟩ := fn_indexC K hk; exact ⟨v, h1, fun K' h' => by unfold indexAddrK; exact h2 K' h'⟩
    · exact hk.elim
  · exact hk.elim
theorem fn_indexAddrO {P : Program} {k : TK} {h : Hp} {x ix : AV} : Fn (fun K => indexAddrO P k h x ix K) := by
  intro K hk
  unfold indexAddrO at hk
  split at hk
  · obtain ⟨v, h1, h2⟩ := fn_indexAddrK K hk.2.2.2; exact ⟨v, h1, fun K' h' => by unfold indexAddrO; exact ⟨hk.1, hk.2.1, hk.2.2.1, h2 K' h'⟩⟩
  · obtain ⟨v, h1, h2⟩ := fn_indexAddrK K hk.2.2; exact ⟨v, h1, fun K' h' => by unfold indexAddrO; exact ⟨hk.1, hk.2.1, h2 K' h'⟩⟩
  · exact hk.elim
theorem fn_lenK {h : Hp} {x : AV} : Fn (fun K => lenK h x K) := by
  intro K hk
  unfold lenK at hk
  split at hk
  · exact ⟨_, hk, fun K' h' => by unfold lenK; exact h'⟩
  · unfold lenC at hk
    split at hk
    · rename_i hc; exact ⟨_, hk, fun K' h' => by unfold lenK lenC; simp only [hc]; exact h'⟩
    · exact hk.elim
  · exact hk.elim
theorem fn_lenO {k : TK} {h : Hp} {x : AV} : Fn (fun K => lenO k h x K) := by
  intro K hk
  unfold lenO at hk
  split at hk
  · unfold lenSK at hk
    split at hk
    · exact ⟨_, hk, fun K' h' => by unfold lenO lenSK; exact h'⟩
    · exact hk.elim
  · obtain ⟨v, h1, h2⟩ := fn_lenK K hk; exact ⟨v, h1, fun K' h' => by unfold lenO; exact h2 K' h'⟩
  · exact ⟨_, hk, fun K' h' => by unfold lenO; exact h'⟩
  · exact hk.elim
theorem eqK_agg {q : EqI} {cs ds : List AV} {K : Bool → Prop} : eqK q (.agg cs) (.agg ds) K = (q.eok = true ∧ 0 < q.n ∧ cs.length = q.n ∧ ∃ b, cellsEq cs ds = some b ∧ K b) := by
  unfold eqK
  cases q.k <;> rfl
theorem fn_eqK {q : EqI} (hn : q.yn = false) {x y : AV} : Fn (fun K => eqK q x y K) := by
  intro K hk
  unfold eqK at hk
  split at hk
  all_goals first
    | exact hk.elim
    | (rename_i hq; exact ⟨_, hk, fun K' h' => by unfold eqK; simp only [hq]; exact h'⟩)
    | skip
  · rw [hn] at hk; exact absurd hk.1 (by simp)
  · obtain ⟨h1, h2, h3, b, h4, h5⟩ := hk
    exact ⟨b, h5, fun K' h' => by dsimp only; rw [eqK_agg]; exact ⟨h1, h2, h3, b, h4, h'⟩⟩
theorem fn_binK {q : EqI} (hn : q.yn = false) {op : BinOp} {x y : AV} : Fn (fun K => binK q op x y K) := by
  intro K hk
  unfold binK at hk
  split at hk
  · split at hk
    · exact ⟨_, hk.2, fun K' h' => by unfold binK; exact ⟨hk.1, h'⟩⟩
    · exact ⟨_, hk.2, fun K' h' => by unfold binK; exact ⟨hk.1, h'⟩⟩
    · exact ⟨_, hk.2.2, fun K' h' => by unfold binK; exact ⟨hk.1, hk.2.1, h'⟩⟩
    · exact ⟨_, hk.2.2, fun K' h' => by unfold binK; exact ⟨hk.1, hk.2.1, h'⟩⟩
    · rename_i h1 h2 h3 h4
      obtain ⟨g1, v, g2, g3⟩ := hk
      refine ⟨v, g3, fun K' h' => ?_⟩
      unfold binK
      cases op <;> first | exact absurd rfl ‹_› | exact ⟨g1, v, g2, h'⟩ | (simp at h1) | (simp at h2) | (simp at h3) | (simp at h4)
  · split at hk
    · exact ⟨_, hk.2, fun K' h' => by unfold binK; exact ⟨hk.1, h'⟩⟩
    · exact ⟨_, hk, fun K' h' => by unfold binK; exact h'⟩
    · exact ⟨_, hk, fun K' h' => by unfold binK; exact h'⟩
    · exact hk.elim
  · rename_i h1 h2
    split at hk
    · obtain ⟨b, g1, g2⟩ := fn_eqK hn _ hk
      refine ⟨_, g1, fun K' h' => ?_⟩
      unfold binK
      split
      · exact absurd rfl (h1 _ _ _ _ rfl)
      · exact absurd rfl (h2 _ _ rfl)
      · exact g2 (fun b => K' (.bool b)) h'
    · obtain ⟨b, g1, g2⟩ := fn_eqK hn _ hk
      refine ⟨_, g1, fun K' h' => ?_⟩
      unfold binK
      split
      · exact absurd rfl (h1 _ _ _ _ rfl)
      · exact absurd rfl (h2 _ _ rfl)
      · exact g2 (fun b => K' (.bool (!b))) h'
    · exact hk.elim
theorem fn_sliceK {x : AV} {lo hi mx : Option AV} : Fn (fun K => sliceK x lo hi mx K) := by
  intro K hk
  unfold sliceK at hk
  split at hk
  · split at hk
    · exact ⟨_, hk.2.2, fun K' h' => by unfold sliceK; exact ⟨hk.1, hk.2.1, h'⟩⟩
    · exact ⟨_, hk.2.2, fun K' h' => by unfold sliceK; exact ⟨hk.1, hk.2.1, h'⟩⟩
    · exact ⟨_, hk.2.2.2, fun K' h' => by unfold sliceK; exact ⟨hk.1, hk.2.1, hk.2.2.1, h'⟩⟩
    · exact hk.elim
  · split at hk
    · exact ⟨_, hk.2.2, fun K' h' => by unfold sliceK; exact ⟨hk.1, hk.2.1, h'⟩⟩
    · exact ⟨_, hk.2.2, fun K' h' => by unfold sliceK; exact ⟨hk.1, hk.2.1, h'⟩⟩
    · exact ⟨_, hk.2.2.2, fun K' h' => by unfold sliceK; exact ⟨hk.1, hk.2.1, hk.2.2.1, h'⟩⟩
    · exact ⟨_, hk.2.2.2, fun K' h' => by unfold sliceK; exact ⟨hk.1, hk.2.1, hk.2.2.1, h'⟩⟩
    · exact hk.elim
  · exact hk.elim

theorem fn_fillK {place : Nat → Option (Nat × Nat)} {ev : Operand → AV} : ∀ (parts : List (Nat × Operand)) (cs : List AV), Fn (fun K => fillK place cs ev parts K) := by
  intro parts
  induction parts with
  | nil => intro cs K hk; exact ⟨cs, hk, fun K' h' => h'⟩
  | cons p r ih =>
    obtain ⟨i, x⟩ := p
    intro cs K hk
    simp only [fillK] at hk
    cases hp : place i with
    | none => rw [hp] at hk; exact hk.elim
    | some on =>
      obtain ⟨off, n⟩ := on
      rw [hp] at hk
      obtain ⟨v, g1, g2⟩ := ih _ K hk.2.2.2
      exact ⟨v, g1, fun K' h' => by simp only [fillK, hp]; exact ⟨hk.1, hk.2.1, hk.2.2.1, g2 K' h'⟩⟩
theorem fn_buildK {P : Program} {k : TK} {t : TypeId} {ev : Operand → AV} {parts : List (Nat × Operand)} : Fn (fun K => buildK P k t ev parts K) := by
  intro K hk
  unfold buildK at hk
  split at hk
  · obtain ⟨v, g1, g2⟩ := fn_fillK _ _ _ hk.2.2; exact ⟨_, g1, fun K' h' => by unfold buildK; exact ⟨hk.1, hk.2.1, g2 (fun cs => K' (.agg cs)) h'⟩⟩
  · obtain ⟨v, g1, g2⟩ := fn_fillK _ _ _ hk.2.2; exact ⟨_, g1, fun K' h' => by unfold buildK; exact ⟨hk.1, hk.2.1, g2 (fun cs => K' (.agg cs)) h'⟩⟩
  · exact hk.elim
theorem fn_buildSliceK {P : Program} {k : TK} {n : Nat} {ev : Operand → AV} {parts : List (Nat × Operand)} : Fn (fun K => buildSliceK P k n ev parts K) := by
  intro K hk
  unfold buildSliceK at hk
  split at hk
  · obtain ⟨h1, h2, h3, h4, h5, h6, hk⟩ := hk
    exact ⟨_, hk, fun K' h' => by unfold buildSliceK; exact ⟨h1, h2, h3, h4, h5, h6, h'⟩⟩
  · exact hk.elim

/-- The tmps an operation reads. -/
def tmpsOf (xs : List Operand) : List Nat := xs.filterMap (fun | .tmp t => some t | _ => none)
def rd (o : Oper) : List Nat := tmpsOf o.op.operands.toList

theorem ev_same {st st' : St} {xs : List Operand} (h : ∀ t ∈ tmpsOf xs, st'.slots t = st.slots t) {x : Operand} (hx : x ∈ xs) : st'.ev x = st.ev x := by
  cases x with
  | tmp t => exact h t (List.mem_filterMap.2 ⟨_, hx, rfl⟩)
  | _ => rfl

/-- Operations that hang on their operands alone and turn nothing. -/
def isS : Op → Bool
  | .move _ => true
  | .assign _ => true
  | .pick _ _ _ => true
  | .build _ _ => true
  | .buildSlice _ _ _ => true
  | .nilCheck _ => true
  | .binOp _ _ _ y _ => !nilSlice y
  | .unOp _ _ _ => true
  | .convert _ _ _ => true
  | .makeFunc _ _ _ => true
  | .slice _ _ _ _ _ => true
  | .fieldAddr _ _ _ => true
  | .field _ _ _ => true
  | .index _ _ _ => true
  | .extract _ _ => true
  | _ => false
/-- .. that read the heap too. -/
def isL : Op → Bool
  | .load _ _ => true
  | .indexAddr _ _ _ => true
  | .lookup _ _ _ _ => true
  | .call ⟨.builtin .len, _, _⟩ => true
  | _ => false

/-- An operation that turns no heap: one value; and the same wherever operands and (by σ) heaps are alike. -/
def Quiet (F : St → (St → Prop) → Prop) (dst : Option Nat) (rds : List Nat) (σ : Hp → Hp → Prop) : Prop :=
  ∀ st K, F st K → ∃ v, K (st.put dst v) ∧ ∀ (st' : St) (K' : St → Prop), (∀ t ∈ rds, st'.slots t = st.slots t) → σ st.hp st'.hp → K' (st'.put dst v) → F st' K'

theorem fillK_ev {place : Nat → Option (Nat × Nat)} {ev ev' : Operand → AV} {K : List AV → Prop} : ∀ (parts : List (Nat × Operand)) (cs : List AV), (∀ p ∈ parts, ev' p.2 = ev p.2) → fillK place cs ev parts K → fillK place cs ev' parts K := by
  intro parts
  induction parts with
  | nil => intro cs _ h; exact h
  | cons p r ih =>
    obtain ⟨i, x⟩ := p
    intro cs he h
    simp only [fillK] at h ⊢
    have hx := he (i, x) (by simp)
    simp only at hx
    rw [hx]
    cases hp : place i with
    | none => rw [hp] at h; exact h.elim
    | some on =>
      rw [hp] at h
      exact ⟨h.1, h.2.1, h.2.2.1, ih _ (fun p hp => he p (by simp [hp])) h.2.2.2⟩
theorem buildK_ev {P : Program} {k : TK} {t : TypeId} {ev ev' : Operand → AV} {parts : List (Nat × Operand)} {K : AV → Prop} (he : ∀ p ∈ parts, ev' p.2 = ev p.2) (h : buildK P k t ev parts K) : buildK P k t ev' parts K := by
  unfold buildK at h ⊢
  split at h
  · exact ⟨h.1, h.2.1, fillK_ev _ _ he h.2.2⟩
  · exact ⟨h.1, h.2.1, fillK_ev _ _ he h.2.2⟩
  · exact h.elim
theorem buildSliceK_ev {P : Program} {k : TK} {n : Nat} {ev ev' : Operand → AV} {parts : List (Nat × Operand)} {K : AV → Prop} (he : ∀ p ∈ parts, ev' p.2 = ev p.2) (h : buildSliceK P k n ev parts K) : buildSliceK P k n ev' parts K := by
  have e : parts.map (fun p => ev' p.2) = parts.map (fun p => ev p.2) := List.map_congr_left he
  unfold buildSliceK at h ⊢
  rw [e]
  exact h

theorem quiet_S {P : Program} {fid : Nat} {o : Oper} (ho : isS o.op = true) : Quiet (opK P fid o) o.dst (rd o) (fun _ _ => True) := by
  intro st K hk
  unfold opK at hk
  unfold rd
  have key : ∀ {F : (AV → Prop) → Prop}, Fn F → F (fun v => K (st.put o.dst v)) → ∃ v, K (st.put o.dst v) ∧ ∀ (st' : St) (K' : St → Prop), K' (st'.put o.dst v) → F (fun v => K' (st'.put o.dst v)) := by
    intro F hF h
    obtain ⟨v, h1, h2⟩ := hF _ h
    exact ⟨v, h1, fun st' K' h' => h2 _ h'⟩
  cases hop : o.op <;> rw [hop] at ho hk <;> (try dsimp only at hk) <;> first | (simp [isS] at ho; done) | skip
  case move x => exact ⟨_, hk, fun st' K' he _ h' => by unfold opK; rw [hop]; dsimp only; rw [ev_same he (by simp [Op.operands])]; exact h'⟩
  case assign x => exact ⟨_, hk, fun st' K' he _ h' => by unfold opK; rw [hop]; dsimp only; rw [ev_same he (by simp [Op.operands])]; exact h'⟩
  case pick c x y =>
    obtain ⟨v, h1, h2⟩ := key fn_pickK hk
    exact ⟨v, h1, fun st' K' he _ h' => by unfold opK; rw [hop]; dsimp only; rw [ev_same he (x := c) (by simp [Op.operands]), ev_same he (x := x) (by simp [Op.operands]), ev_same he (x := y) (by simp [Op.operands])]; exact h2 st' K' h'⟩
  case build t parts =>
    obtain ⟨v, h1, h2⟩ := key fn_buildK hk
    exact ⟨v, h1, fun st' K' he _ h' => by unfold opK; rw [hop]; dsimp only; exact buildK_ev (fun p hp => ev_same he (by simp only [Op.operands]; exact List.mem_map.2 ⟨p, hp, rfl⟩)) (h2 st' K' h')⟩
  case buildSlice t n parts =>
    obtain ⟨v, h1, h2⟩ := key fn_buildSliceK hk
    exact ⟨v, h1, fun st' K' he _ h' => by unfold opK; rw [hop]; dsimp only; exact buildSliceK_ev (fun p hp => ev_same he (by simp only [Op.operands]; exact List.mem_map.2 ⟨p, hp, rfl⟩)) (h2 st' K' h')⟩
  case nilCheck x =>
    obtain ⟨v, h1, h2⟩ := key fn_nilCheckK hk
    exact ⟨v, h1, fun st' K' he _ h' => by unfold opK; rw [hop]; dsimp only; rw [ev_same he (by simp [Op.operands])]; exact h2 st' K' h'⟩
  case binOp op xt x y yt =>
    obtain ⟨v, h1, h2⟩ := key (fn_binK (by simpa [isS, EqI.mk'] using ho)) hk
    exact ⟨v, h1, fun st' K' he _ h' => by unfold opK; rw [hop]; dsimp only; rw [ev_same he (x := x) (by simp [Op.operands]), ev_same he (x := y) (by simp [Op.operands])]; exact h2 st' K' h'⟩
  case unOp op xt x =>
    obtain ⟨v, h1, h2⟩ := key fn_unK hk
    exact ⟨v, h1, fun st' K' he _ h' => by unfold opK; rw [hop]; dsimp only; rw [ev_same he (by simp [Op.operands])]; exact h2 st' K' h'⟩
  case convert s t x =>
    obtain ⟨v, h1, h2⟩ := key fn_convK hk
    exact ⟨v, h1, fun st' K' he _ h' => by unfold opK; rw [hop]; dsimp only; rw [ev_same he (by simp [Op.operands])]; exact h2 st' K' h'⟩
  case makeFunc fn first caps =>
    refine ⟨_, hk.2, fun st' K' he _ h' => ?_⟩
    unfold opK; rw [hop]; dsimp only
    have e : caps.toList.map st'.ev = caps.toList.map st.ev := List.map_congr_left fun x hx => ev_same he (by simp [Op.operands]; exact .inr (by simpa using hx))
    rw [e]
    exact ⟨hk.1, h'⟩
  case slice t x lo hi mx =>
    obtain ⟨v, h1, h2⟩ := key fn_sliceK hk.2
    refine ⟨v, h1, fun st' K' he _ h' => ?_⟩
    unfold opK; rw [hop]; dsimp only
    have e1 := ev_same he (x := x) (by simp [Op.operands])
    have e2 : lo.map st'.ev = lo.map st.ev := by cases lo with | none => rfl | some y => simp [ev_same he (x := y) (by simp [Op.operands])]
    have e3 : hi.map st'.ev = hi.map st.ev := by cases hi with | none => rfl | some y => simp [ev_same he (x := y) (by simp [Op.operands])]
    have e4 : mx.map st'.ev = mx.map st.ev := by cases mx with | none => rfl | some y => simp [ev_same he (x := y) (by simp [Op.operands])]
    rw [e1, e2, e3, e4]
    exact ⟨hk.1, h2 st' K' h'⟩
  case fieldAddr s x f =>
    obtain ⟨v, h1, h2⟩ := key fn_fieldAddrO hk
    exact ⟨v, h1, fun st' K' he _ h' => by unfold opK; rw [hop]; dsimp only; rw [ev_same he (by simp [Op.operands])]; exact h2 st' K' h'⟩
  case field s x f =>
    obtain ⟨v, h1, h2⟩ := key fn_fieldO hk
    exact ⟨v, h1, fun st' K' he _ h' => by unfold opK; rw [hop]; dsimp only; rw [ev_same he (by simp [Op.operands])]; exact h2 st' K' h'⟩
  case index t x ix =>
    obtain ⟨v, h1, h2⟩ := key fn_indexO hk
    exact ⟨v, h1, fun st' K' he _ h' => by unfold opK; rw [hop]; dsimp only; rw [ev_same he (x := x) (by simp [Op.operands]), ev_same he (x := ix) (by simp [Op.operands])]; exact h2 st' K' h'⟩
  case extract x i =>
    obtain ⟨v, h1, h2⟩ := key fn_extractK hk
    exact ⟨v, h1, fun st' K' he _ h' => by unfold opK; rw [hop]; dsimp only; rw [ev_same he (by simp [Op.operands])]; exact h2 st' K' h'⟩

end Go.T
/- Operations apart may change places. -/
namespace Go.T
open Go

theorem St.ext {s t : St} (h1 : ∀ i, s.slots i = t.slots i) (h2 : s.hp = t.hp) : s = t := by
  cases s; cases t
  simp only at h1 h2
  subst h2
  congr
  exact funext h1

/-- As found, or new. -/
def Sub (h h' : Hp) : Prop := ∀ L, (h.con L).live → h'.con L = h.con L
/-- The variables' cells are aas they were. -/
def BlkEq (h h' : Hp) : Prop := ∀ L, isBlk (h.con L) ∨ isBlk (h'.con L) → h'.con L = h.con L
def BlkUp (h h' : Hp) : Prop := ∀ L, isBlk (h.con L) → h'.con L = h.con L

theorem isBlk.live {c : Con} (h : isBlk c) : c.live := by cases c <;> first | exact h.elim | trivial

theorem loadK_hp {h h' : Hp} (hs : Sub h h') {g : Bool} {n : Nat} {a : AV} {K : AV → Prop} (hk : loadK h g n a K) : loadK h' g n a K := by
  unfold loadK at hk ⊢
  split at hk
  · exact hk
  · rename_i L sz i j
    have hl : (h.con L).live := by
      cases hc : h.con L <;> rw [hc] at hk <;> simp only [loadC] at hk <;> trivial
    rw [hs L hl]; exact hk
  · exact hk.elim
theorem loadK_blk {h h' : Hp} (hs : BlkUp h h') {g : Bool} {n : Nat} {a : AV} {K : AV → Prop} (hb : blkK h a) (hk : loadK h g n a K) : blkK h' a ∧ loadK h' g n a K := by
  unfold loadK at hk ⊢
  unfold blkK at hb ⊢
  split at hk
  · exact ⟨trivial, hk⟩
  · rename_i L sz i j
    simp only at hb ⊢
    rw [hs L hb]; exact ⟨hb, hk⟩
  · exact hk.elim

theorem indexAddrO_hp {P : Program} {k : TK} {h h' : Hp} (hs : Sub h h') {x ix : AV} {K : AV → Prop} (hk : indexAddrO P k h x ix K) : indexAddrO P k h' x ix K := by
  have key : ∀ {o m}, indexAddrK h o m x ix K → indexAddrK h' o m x ix K := by
    intro o m hk
    unfold indexAddrK at hk ⊢
    split at hk
    · split at hk
      · exact hk
      · exact hk
      · exact hk
      · rename_i L _
        have hl : (h.con L).live := by
          cases hc : h.con L <;> rw [hc] at hk <;> simp only [indexC] at hk <;> trivial
        rw [hs L hl]; exact hk
      · exact hk.elim
    · exact hk.elim
  unfold indexAddrO at hk ⊢
  split at hk
  · exact ⟨hk.1, hk.2.1, hk.2.2.1, key hk.2.2.2⟩
  · exact ⟨hk.1, hk.2.1, key hk.2.2⟩
  · exact hk.elim
theorem lenO_hp {P : Program} {t : TypeId} {h h' : Hp} (hs : Sub h h') {x : AV} {K : AV → Prop} (hk : lenO (tk P t) h x K) : lenO (tk P t) h' x K := by
  unfold lenO at hk ⊢
  split at hk
  · exact hk
  · unfold lenK at hk ⊢
    split at hk
    · exact hk
    · rename_i L
      have hl : (h.con L).live := by
        cases hc : h.con L <;> rw [hc] at hk <;> simp only [lenC] at hk <;> trivial
      rw [hs L hl]; exact hk
    · exact hk.elim
  · exact hk
  · exact hk.elim

theorem lookM_fn {h : Hp} {x : AV} {ok : Bool} {z : AV} {cs : List AV} {K : AV → Prop} (hk : lookM h x ok z cs K) : ∃ v, K v ∧ ∀ h', Sub h h' → ∀ K' : AV → Prop, K' v → lookM h' x ok z cs K' := by
  unfold lookM at hk
  split at hk
  · rename_i L
    have hl : (h.con L).live := by
      cases hc : h.con L <;> rw [hc] at hk <;> simp only [lookC] at hk <;> trivial
    unfold lookC at hk
    split at hk
    · rename_i es ck hcon
      obtain ⟨r, hf, hk⟩ := hk
      unfold lookR at hk
      split at hk
      · exact ⟨_, hk, fun h' hs K' h'' => by unfold lookM lookC; simp only [hs L hl, hcon]; exact ⟨_, hf, h''⟩⟩
      · obtain ⟨hi, hk⟩ := hk
        exact ⟨_, hk, fun h' hs K' h'' => by unfold lookM lookC; simp only [hs L hl, hcon]; exact ⟨_, hf, hi, h''⟩⟩
    · exact hk.elim
  · exact ⟨_, hk, fun h' hs K' h'' => by unfold lookM; exact h''⟩
  · exact hk.elim
theorem lookupK_fn {P : Program} {t : TypeId} {h : Hp} {x ix : AV} {ok : Bool} {K : AV → Prop} (hk : lookupK P (tk P t) h x ix ok K) : ∃ v, K v ∧ ∀ h', Sub h h' → ∀ K' : AV → Prop, K' v → lookupK P (tk P t) h' x ix ok K' := by
  unfold lookupK at hk
  split at hk
  · rename_i kt et ht
    obtain ⟨h1, hk⟩ := hk
    unfold keyK at hk
    split at hk
    · rename_i cs
      obtain ⟨h2, h3, h4, hk⟩ := hk
      obtain ⟨v, g1, g2⟩ := lookM_fn hk
      exact ⟨v, g1, fun h'' hs'' K' hK' => by unfold lookupK; rw [ht]; refine ⟨h1, ?_⟩; unfold keyK; exact ⟨h2, h3, h4, g2 h'' hs'' K' hK'⟩⟩
    · exact hk.elim
  · exact hk.elim

theorem quiet_L {P : Program} {fid : Nat} {o : Oper} (ho : isL o.op = true) : Quiet (opK P fid o) o.dst (rd o) Sub := by
  intro st K hk
  unfold opK at hk
  unfold rd
  cases hop : o.op <;> rw [hop] at ho hk <;> (try dsimp only at hk) <;> first | (simp [isL] at ho; done) | skip
  case load t x =>
    obtain ⟨v, h1, h2⟩ := fn_loadK _ hk.2
    exact ⟨v, h1, fun st' K' he hs h' => by unfold opK; rw [hop]; dsimp only; rw [ev_same he (by simp [Op.operands])]; exact ⟨hk.1, loadK_hp hs (h2 (fun v => K' (st'.put o.dst v)) h')⟩⟩
  case indexAddr t x ix =>
    obtain ⟨v, h1, h2⟩ := fn_indexAddrO _ hk
    exact ⟨v, h1, fun st' K' he hs h' => by unfold opK; rw [hop]; dsimp only; rw [ev_same he (x := x) (by simp [Op.operands]), ev_same he (x := ix) (by simp [Op.operands])]; exact indexAddrO_hp hs (h2 (fun v => K' (st'.put o.dst v)) h')⟩
  case lookup t x ix ok =>
    obtain ⟨v, h1, h2⟩ := lookupK_fn hk
    exact ⟨v, h1, fun st' K' he hs h' => by unfold opK; rw [hop]; dsimp only; rw [ev_same he (x := x) (by simp [Op.operands]), ev_same he (x := ix) (by simp [Op.operands])]; exact h2 _ hs (fun v => K' (st'.put o.dst v)) h'⟩
  case call c =>
    obtain ⟨callee, args, ats⟩ := c
    cases callee with
    | value f => simp [isL] at ho
    | invoke r m => simp [isL] at ho
    | builtin b =>
      cases b <;> first | (simp [isL] at ho; done) | skip
      simp only [calleeK] at hk
      split at hk
      · rename_i x t hx ht
        obtain ⟨v, h1, h2⟩ := fn_lenO _ hk
        refine ⟨v, h1, fun st' K' he hs h' => ?_⟩
        unfold opK; rw [hop]; simp only [calleeK]
        have e : args.toList.map st'.ev = args.toList.map st.ev := List.map_congr_left fun y hy => ev_same he (by simp [Op.operands, Call.operands]; simpa using hy)
        rw [e, hx, ht]
        exact lenO_hp hs (h2 (fun v => K' (st'.put o.dst v)) h')
      · exact hk.elim

theorem quiet_B {P : Program} {fid : Nat} {o : Oper} : Quiet (opT P fid .blk o) o.dst (rd o) BlkUp := by
  intro st K hk
  obtain ⟨hb, hk⟩ := hk
  unfold opK at hk
  unfold rd
  cases hop : o.op <;> rw [hop] at hb hk <;> first | exact hb.elim | skip
  rename_i t x
  simp only [blkO] at hb
  dsimp only at hk
  obtain ⟨v, h1, h2⟩ := fn_loadK _ hk.2
  refine ⟨v, h1, fun st' K' he hs h' => ?_⟩
  have := loadK_blk hs hb (h2 (fun v => K' (st'.put o.dst v)) h')
  simp only [opT]
  unfold opK
  rw [hop]; simp only [blkO]
  rw [ev_same he (x := x) (by simp [Op.operands])]
  exact ⟨this.1, hk.1, this.2⟩

theorem quiet_P {P : Program} {fid : Nat} {o : Oper} : Quiet (opT P fid .pure o) o.dst (rd o) (fun _ _ => True) := by
  intro st K hk
  simp only [opT] at hk
  unfold pureO at hk
  split at hk
  · rename_i f args ats hop
    unfold pureK at hk
    split at hk
    · rename_i g caps hf
      obtain ⟨h1, v, h2, h3⟩ := hk
      refine ⟨v, h3, fun st' K' he _ h' => ?_⟩
      have e1 : st'.ev f = st.ev f := ev_same he (by rw [hop]; simp [Op.operands, Call.operands])
      have e2 : args.toList.map st'.ev = args.toList.map st.ev := List.map_congr_left fun y hy => ev_same he (by rw [hop]; simp [Op.operands, Call.operands]; exact .inr (by simpa using hy))
      simp only [opT, hop, pureO, e1, e2, hf, pureK]
      exact ⟨h1, v, h2, h'⟩
    · exact hk.elim
  · exact hk.elim

/-- An operation with one outcome; the heap turns aas ρ says. -/
def Post (F : St → (St → Prop) → Prop) (dst : Option Nat) (rds : List Nat) (ρ : Hp → Hp → Prop) : Prop :=
  ∀ st K, F st K → ∃ v h, ρ st.hp h ∧ K ((st.withHp h).put dst v) ∧ ∀ (st' : St) (K' : St → Prop), (∀ t ∈ rds, st'.slots t = st.slots t) → st'.hp = st.hp → K' ((st'.withHp h).put dst v) → F st' K'

theorem Quiet.post {F : St → (St → Prop) → Prop} {dst : Option Nat} {rds : List Nat} {σ : Hp → Hp → Prop} (h : Quiet F dst rds σ) (hr : ∀ h, σ h h) : Post F dst rds (fun h h' => h' = h) := by
  intro st K hk
  obtain ⟨v, h1, h2⟩ := h st K hk
  refine ⟨v, st.hp, rfl, h1, fun st' K' he hh h' => h2 st' K' he (by rw [hh]; exact hr _) ?_⟩
  have e : st'.withHp st.hp = st' := by rw [← hh]; rfl
  rw [e] at h'
  exact h'

theorem put_comm {st : St} {d e : Option Nat} {u v : AV} (hne : ∀ x, d = some x → e ≠ some x) : (st.put d u).put e v = (st.put e v).put d u := by
  cases d with
  | none => simp [put_none]
  | some d =>
    cases e with
    | none => simp [put_none]
    | some e =>
      have : d ≠ e := fun h => hne d rfl (by rw [h])
      refine St.ext (fun i => ?_) (by simp [put_hp])
      simp only [put_slots]
      by_cases h1 : i = e
      · by_cases h2 : i = d
        · exact absurd (h2.symm.trans h1) this
        · simp [h1, Ne.symm this]
      · simp [h1]
theorem put_withHp {st : St} {d : Option Nat} {u : AV} {h : Hp} : (st.put d u).withHp h = (st.withHp h).put d u := by
  cases d <;> rfl

theorem agree_put {st : St} {d : Option Nat} {v : AV} {rds : List Nat} (hd : ∀ x, d = some x → x ∉ rds) : ∀ t ∈ rds, (st.put d v).slots t = st.slots t := by
  intro t ht
  cases d with
  | none => rw [put_none]
  | some d =>
    rw [put_slots, if_neg]
    intro hE; subst hE; exact hd _ rfl ht

section
variable {F G : St → (St → Prop) → Prop} {dF dG : Option Nat} {rF rG : List Nat} {σ ρ : Hp → Hp → Prop}

theorem swap_quiet_post (hF : Quiet F dF rF σ) (hG : Post G dG rG ρ) (hσ : ∀ h h', ρ h h' → σ h h') (h1 : ∀ x, dG = some x → x ∉ rF) (h2 : ∀ x, dF = some x → x ∉ rG) (h3 : ∀ x, dF = some x → dG ≠ some x)
    {st : St} {K : St → Prop} (h : F st (fun s => G s K)) : G st (fun s => F s K) := by
  obtain ⟨v, g1, g2⟩ := hF _ _ h
  obtain ⟨u, h', p1, p2, p3⟩ := hG _ _ g1
  rw [put_hp] at p1
  refine p3 st _ (fun t ht => (agree_put h2 t ht).symm) (by rw [put_hp]) ?_
  refine g2 _ _ (fun t ht => ?_) (by rw [put_hp]; exact hσ _ _ p1) ?_
  · rw [agree_put h1 t ht]; rfl
  · rw [put_withHp, put_comm h3] at p2
    exact p2

theorem swap_post_quiet (hF : Post F dF rF ρ) (hG : Quiet G dG rG σ) (hσ : ∀ h h', ρ h h' → σ h' h) (h1 : ∀ x, dG = some x → x ∉ rF) (h2 : ∀ x, dF = some x → x ∉ rG) (h3 : ∀ x, dF = some x → dG ≠ some x)
    {st : St} {K : St → Prop} (h : F st (fun s => G s K)) : G st (fun s => F s K) := by
  obtain ⟨v, h', p1, p2, p3⟩ := hF _ _ h
  obtain ⟨u, g1, g2⟩ := hG _ _ p2
  refine g2 st _ (fun t ht => ?_) (by rw [put_hp]; exact hσ _ _ p1) ?_
  · rw [agree_put h2 t ht]; rfl
  · refine p3 _ _ (fun t ht => agree_put h1 t ht) (by rw [put_hp]) ?_
    rw [put_withHp, ← put_comm h3]
    exact g1

theorem Post.mono {ρ' : Hp → Hp → Prop} (h : Post F dF rF ρ) (hr : ∀ h h', ρ h h' → ρ' h h') : Post F dF rF ρ' := by
  intro st K hk
  obtain ⟨v, h', p1, p2, p3⟩ := h _ _ hk
  exact ⟨v, h', hr _ _ p1, p2, p3⟩
end

theorem alloc_sub {h : Hp} {f s : Nat} {c : Con} : Sub h (h.alloc f s c) := by
  intro L hl
  exact alloc_con_ne (f := f) (s := s) (c := c) (by
    intro hE
    have := h.ok L (by rw [hE]; simp [Hp.fresh])
    rw [this] at hl; exact hl.elim)

theorem alloc_blk {h : Hp} {f s sz : Nat} {xs : List AV} : BlkEq h (h.alloc f s (.arr sz xs)) := by
  intro L hl
  by_cases hE : L = h.fresh f s
  · subst hE
    rw [alloc_con_eq] at hl
    rcases hl with hl | hl
    · have := h.ok (h.fresh f s) (by simp [Hp.fresh])
      rw [this] at hl; exact hl.elim
    · exact hl.elim
  · exact alloc_con_ne hE

theorem post_alloc {P : Program} {fid : Nat} {o : Oper} (ho : (∃ t, o.op = .alloc t) ∨ ∃ t x, o.op = .box t x) : Post (opK P fid o) o.dst (rd o) Sub := by
  intro st K hk
  unfold opK at hk
  unfold rd
  rcases ho with ⟨t, hop⟩ | ⟨t, x, hop⟩ <;> rw [hop] at hk <;> dsimp only at hk
  · refine ⟨_, _, alloc_sub, hk.2, fun st' K' he hh h' => ?_⟩
    unfold opK; rw [hop]; dsimp only
    rw [hh]; exact ⟨hk.1, h'⟩
  · obtain ⟨h1, h2⟩ := hk
    refine ⟨_, _, alloc_sub, h2, fun st' K' he hh h' => ?_⟩
    unfold opK; rw [hop]; dsimp only
    rw [hh, ev_same he (x := x) (by rw [hop]; simp [Op.operands])]; exact ⟨h1, h'⟩

theorem post_makeSlice {P : Program} {fid : Nat} {o : Oper} {t : TypeId} {x y : Operand} (hop : o.op = .makeSlice t x y) : Post (opK P fid o) o.dst (rd o) (fun h h' => Sub h h' ∧ BlkEq h h') := by
  intro st K hk
  unfold opK at hk
  unfold rd
  rw [hop] at hk; dsimp only at hk
  unfold makeSliceO at hk
  split at hk
  · rename_i e hte
    obtain ⟨q1, hk⟩ := hk
    unfold makeSliceK at hk
    split at hk
    · rename_i a b hx hy
      obtain ⟨q2, q3, q4, q5, q6, q7, hk⟩ := hk
      refine ⟨_, _, ⟨alloc_sub, alloc_blk⟩, hk, fun st' K' he hh h' => ?_⟩
      unfold opK; rw [hop]; dsimp only
      rw [hh, ev_same he (x := x) (by rw [hop]; simp [Op.operands]), ev_same he (x := y) (by rw [hop]; simp [Op.operands])]
      unfold makeSliceO
      rw [hte, hx, hy]
      exact ⟨q1, q2, q3, q4, q5, q6, q7, h'⟩
    · exact hk.elim
  · exact hk.elim

theorem post_append {P : Program} {fid : Nat} {o : Oper} {args : Array Operand} {ats : Array TypeId} (hop : o.op = .call ⟨.builtin .append, args, ats⟩) : Post (opK P fid o) o.dst (rd o) BlkEq := by
  intro st K hk
  unfold opK at hk
  unfold rd
  rw [hop] at hk; simp only [calleeK] at hk
  split at hk
  · rename_i x y t u hx ht
    have rerun : ∀ {v h'}, (∀ K' : AV → Hp → Prop, K' v h' → appendO P (tk P t) (tk P u) st.hp fid (o.dst.getD 0) x y K') → ∀ (st' : St) (K' : St → Prop), (∀ q ∈ tmpsOf (o.op.operands.toList), st'.slots q = st.slots q) → st'.hp = st.hp → K' ((st'.withHp h').put o.dst v) → opK P fid o st' K' := by
      intro v h' hr st' K' he hh h''
      unfold opK; rw [hop]; simp only [calleeK]
      have e : args.toList.map st'.ev = args.toList.map st.ev := List.map_congr_left fun y hy => ev_same he (by rw [hop]; simp [Op.operands, Call.operands]; simpa using hy)
      rw [e, hx, ht, hh]
      exact hr (fun r h => K' ((st'.withHp h).put o.dst r)) h''
    unfold appendO at hk
    split at hk
    · rename_i el _ h1 h2
      obtain ⟨q1, hk⟩ := hk
      unfold appendK appendY at hk
      split at hk
      · rename_i sz' ys hel
        obtain ⟨q2, hk⟩ := hk
        unfold appendX at hk
        split at hk
        · obtain ⟨q3, q4, q5, hk⟩ := hk
          exact ⟨_, _, alloc_blk, hk, rerun fun K' h' => by unfold appendO; rw [h1, h2]; refine ⟨q1, ?_⟩; unfold appendK appendY; rw [hel]; exact ⟨q2, q3, q4, q5, h'⟩⟩
        · rename_i L
          unfold appendC at hk
          split at hk
          · rename_i sz'' xs hcon
            obtain ⟨q3, q4, q5, q6, hk⟩ := hk
            refine ⟨_, _, ?_, hk, rerun fun K' h' => by unfold appendO; rw [h1, h2]; refine ⟨q1, ?_⟩; unfold appendK appendY; rw [hel]; refine ⟨q2, ?_⟩; unfold appendX appendC; simp only [hcon]; exact ⟨q3, q4, q5, q6, h'⟩⟩
            intro M hM
            have hs : BlkEq st.hp (st.hp.set L .none) := by
              intro M hM
              by_cases hE : M = L
              · subst hE
                rw [hcon, set_con_dead] at hM
                rcases hM with h | h <;> exact h.elim
              · exact set_con_ne hE
            have ha := alloc_blk (h := st.hp.set L .none) (f := fid) (s := o.dst.getD 0) (sz := tsz P el) (xs := xs ++ ys)
            rcases hM with hM | hM
            · have e1 := hs M (.inl hM)
              rw [ha M (.inl (by rw [e1]; exact hM)), e1]
            · have e1 := ha M (.inr hM)
              rw [e1, hs M (.inr (by rw [← e1]; exact hM))]
          · exact hk.elim
        · exact hk.elim
      · exact hk.elim
    · exact hk.elim
  · exact hk.elim

theorem post_store {P : Program} {fid : Nat} {o : Oper} {t : TypeId} {x y : Operand} (hop : o.op = .store t x y) : Post (opK P fid o) o.dst (rd o) (fun _ _ => True) := by
  intro st K hk
  unfold opK at hk
  unfold rd
  rw [hop] at hk; dsimp only at hk
  obtain ⟨q1, q2, q3, hk⟩ := hk
  have rerun : ∀ {h'}, (∀ K' : Hp → Prop, K' h' → storeP st.hp (tsz P t) (st.ev x) (st.ev y).cells K') → ∀ (st' : St) (K' : St → Prop), (∀ q ∈ tmpsOf (o.op.operands.toList), st'.slots q = st.slots q) → st'.hp = st.hp → K' ((st'.withHp h').put o.dst .un) → opK P fid o st' K' := by
    intro h' hr st' K' he hh h''
    unfold opK; rw [hop]; dsimp only
    rw [ev_same he (x := x) (by rw [hop]; simp [Op.operands]), ev_same he (x := y) (by rw [hop]; simp [Op.operands]), hh]
    exact ⟨q1, q2, q3, hr (fun h => K' ((st'.withHp h).put o.dst .un)) h''⟩
  unfold storeP at hk
  split at hk
  · rename_i L sz i j hx
    unfold storeC at hk
    split at hk
    · rename_i cs hcon
      obtain ⟨h1, h2, hk⟩ := hk
      exact ⟨.un, _, trivial, hk, rerun fun K' h' => by unfold storeP storeC; rw [hx]; simp only [hcon]; exact ⟨h1, h2, h'⟩⟩
    · rename_i sz' xs hcon
      obtain ⟨h1, hi, h2, hk⟩ := hk
      exact ⟨.un, _, trivial, hk, rerun fun K' h' => by unfold storeP storeC; rw [hx]; simp only [hcon]; exact ⟨h1, hi, h2, h'⟩⟩
    · exact hk.elim
  · exact hk.elim

theorem alloc_blk' {h : Hp} {f s : Nat} {c : Con} (hc : ¬ isBlk c) : BlkEq h (h.alloc f s c) := by
  intro L hl
  by_cases hE : L = h.fresh f s
  · subst hE
    rw [alloc_con_eq] at hl
    rcases hl with hl | hl
    · have := h.ok (h.fresh f s) (by simp [Hp.fresh])
      rw [this] at hl; exact hl.elim
    · exact absurd hl hc
  · exact alloc_con_ne hE

theorem set_mp_blk {h : Hp} {L : Lab} {es es' : List (AV × AV × Nat)} {ck ck' : Nat} (hcon : h.con L = .mp es ck) : BlkEq h (h.set L (.mp es' ck')) := by
  intro M hM
  by_cases hE : M = L
  · subst hE
    have hlive : (h.con M).live := by rw [hcon]; trivial
    rw [set_con_eq hlive, hcon] at hM
    rcases hM with h | h <;> exact h.elim
  · exact set_con_ne hE

theorem post_makeMap {P : Program} {fid : Nat} {o : Oper} {t : TypeId} {r : Option Operand} (hop : o.op = .makeMap t r) : Post (opK P fid o) o.dst (rd o) (fun h h' => Sub h h' ∧ BlkEq h h') := by
  intro st K hk
  unfold opK at hk
  rw [hop] at hk
  cases r with
  | some r => exact hk.elim
  | none =>
    dsimp only at hk
    refine ⟨_, _, ⟨alloc_sub, alloc_blk' (c := .mp [] 0) (fun h => h)⟩, hk, fun st' K' he hh h' => ?_⟩
    unfold opK; rw [hop]; dsimp only
    rw [hh]; exact h'

theorem post_mapEntry {P : Program} {fid : Nat} {o : Oper} {t : TypeId} {x y : Operand} (hop : o.op = .mapEntry t x y) : Post (opK P fid o) o.dst (rd o) BlkEq := by
  intro st K hk
  unfold opK at hk
  unfold rd
  rw [hop] at hk; dsimp only at hk
  have main : ∃ v h', BlkEq st.hp h' ∧ K ((st.withHp h').put o.dst v) ∧ ∀ K' : AV → Hp → Prop, K' v h' → mapEntryK P (tk P t) st.hp (st.ev x) (st.ev y) K' := by
    unfold mapEntryK at hk
    split at hk
    · rename_i kt et ht
      obtain ⟨h1, hk⟩ := hk
      unfold keyK at hk
      split at hk
      · rename_i cs hy
        obtain ⟨h2, h3, h4, hk⟩ := hk
        have re : ∀ {K' : AV → Hp → Prop}, entryM st.hp (st.ev x) (tzero P et) cs K' → mapEntryK P (tk P t) st.hp (st.ev x) (st.ev y) K' := by
          intro K' hK'
          unfold mapEntryK; rw [ht, hy]; refine ⟨h1, ?_⟩; unfold keyK; exact ⟨h2, h3, h4, hK'⟩
        unfold entryM at hk
        split at hk
        · rename_i L hx
          unfold entryC at hk
          split at hk
          · rename_i es ck hcon
            obtain ⟨r, hf, hk⟩ := hk
            unfold entryR at hk
            split at hk
            · refine ⟨_, _, set_mp_blk hcon, hk, fun K' hK' => ?_⟩
              have := re (K' := K') (by unfold entryM entryC; rw [hx]; dsimp only; rw [hcon]; exact ⟨_, hf, hK'⟩)
              exact this
            · obtain ⟨hi, hk⟩ := hk
              refine ⟨_, _, fun _ _ => rfl, hk, fun K' hK' => ?_⟩
              have := re (K' := K') (by unfold entryM entryC; rw [hx]; dsimp only; rw [hcon]; exact ⟨_, hf, hi, hK'⟩)
              exact this
          · exact hk.elim
        · exact hk.elim
      · exact hk.elim
    · exact hk.elim
  obtain ⟨v, h', m1, m2, m3⟩ := main
  refine ⟨v, h', m1, m2, fun st' K' he hh hK' => ?_⟩
  unfold opK; rw [hop]; dsimp only
  rw [ev_same he (x := x) (by rw [hop]; simp [Op.operands]), ev_same he (x := y) (by rw [hop]; simp [Op.operands]), hh]
  exact m3 (fun v h => K' ((st'.withHp h).put o.dst v)) hK'

theorem post_entryStore {P : Program} {fid : Nat} {o : Oper} {t : TypeId} {x s y : Operand} (hop : o.op = .entryStore t x s y) : Post (opK P fid o) o.dst (rd o) BlkEq := by
  intro st K hk
  unfold opK at hk
  unfold rd
  rw [hop] at hk; dsimp only at hk
  have main : ∃ h', BlkEq st.hp h' ∧ K ((st.withHp h').put o.dst .un) ∧ ∀ K' : Hp → Prop, K' h' → entryStoreK st.hp (st.ev x) (st.ev s) (st.ev y) K' := by
    unfold entryStoreK at hk
    split at hk
    · rename_i L b hx hs
      unfold estoreC at hk
      split at hk
      · rename_i es ck hcon
        unfold estoreR at hk
        split at hk
        · rename_i i hf
          obtain ⟨hi, hk⟩ := hk
          refine ⟨_, set_mp_blk hcon, hk, fun K' hK' => ?_⟩
          rw [hx, hs]
          unfold entryStoreK estoreC
          dsimp only
          rw [hcon]
          dsimp only
          unfold estoreR
          rw [hf]
          exact ⟨hi, hK'⟩
        · exact hk.elim
      · exact hk.elim
    · exact hk.elim
  obtain ⟨h', m1, m2, m3⟩ := main
  refine ⟨.un, h', m1, m2, fun st' K' he hh hK' => ?_⟩
  unfold opK; rw [hop]; dsimp only
  rw [ev_same he (x := x) (by rw [hop]; simp [Op.operands]), ev_same he (x := s) (by rw [hop]; simp [Op.operands]), ev_same he (x := y) (by rw [hop]; simp [Op.operands]), hh]
  exact m3 (fun h => K' ((st'.withHp h).put o.dst .un)) hK'

end Go.T
/- Regions whose order is drawn: one order stands for all. -/
namespace Go.T
open Go

/-- The slot of an operation's guard. -/
def gsl (ops : List Oper) (o : Oper) : List Nat :=
  match o.guard with
  | none => []
  | some (j, _) => (match (ops[j]?).bind (·.dst) with
    | some d => [d]
    | none => [])
def rdG (ops : List Oper) (o : Oper) : List Nat := gsl ops o ++ rd o

theorem put_same {st : St} {d : Nat} {v : AV} (h : st.slots d = v) : st.put (some d) v = st := by
  refine St.ext (fun i => ?_) (by rw [put_hp])
  rw [put_slots]
  by_cases hi : i = d
  · subst hi; rw [if_pos rfl, h]
  · rw [if_neg hi]

/-- Whether an operation runs: its guard. -/
def acts (ops : List Oper) (o : Oper) (st : St) : Option Bool :=
  match o.guard with
  | none => some true
  | some (j, want) => (match (ops[j]?).bind (·.dst) with
    | none => none
    | some d => (match st.slots d with
      | .bool b => some (b == want)
      | .un => some false
      | _ => none))

theorem stepT_acts {P : Program} {fid : Nat} {ops : List Oper} {tg : Tg} {o : Oper} {st : St} {K : St → Prop} :
    stepT P fid ops tg o st K ↔ (acts ops o st = some true ∧ opT P fid tg o st K) ∨ (acts ops o st = some false ∧ K (st.put o.dst .un)) := by
  unfold stepT acts guardG
  cases hg : o.guard with
  | none => simp
  | some p =>
    obtain ⟨j, want⟩ := p
    simp only
    cases hj : (ops[j]?).bind (·.dst) with
    | none => simp [guardO]
    | some d =>
      simp only [guardO]
      cases hv : st.slots d <;> simp only [guardK]
      case bool b =>
        by_cases hb : b = want
        · subst hb
          rw [put_same hv]
          cases b <;> simp
        · have : b = !want := by cases b <;> cases want <;> simp_all
          subst this
          rw [put_same hv]
          cases want <;> simp
      all_goals simp

theorem acts_same {ops : List Oper} {o : Oper} {st st' : St} (h : ∀ t ∈ gsl ops o, st'.slots t = st.slots t) : acts ops o st' = acts ops o st := by
  unfold acts
  unfold gsl at h
  cases hg : o.guard with
  | none => rfl
  | some p =>
    obtain ⟨j, want⟩ := p
    rw [hg] at h
    simp only at h ⊢
    cases hj : (ops[j]?).bind (·.dst) with
    | none => rfl
    | some d =>
      rw [hj] at h
      simp only
      rw [h d (by simp)]

section
variable {P : Program} {fid : Nat} {ops : List Oper} {tg : Tg} {o : Oper} {σ ρ : Hp → Hp → Prop}

theorem Quiet.step (h : Quiet (opT P fid tg o) o.dst (rd o) σ) : Quiet (stepT P fid ops tg o) o.dst (rdG ops o) σ := by
  intro st K hk
  rcases stepT_acts.1 hk with ⟨ha, hk⟩ | ⟨ha, hk⟩
  · obtain ⟨v, h1, h2⟩ := h _ _ hk
    exact ⟨v, h1, fun st' K' he hs h' => stepT_acts.2 (.inl ⟨by rw [acts_same (fun t ht => he t (List.mem_append_left _ ht))]; exact ha, h2 _ _ (fun t ht => he t (List.mem_append_right _ ht)) hs h'⟩)⟩
  · exact ⟨.un, hk, fun st' K' he _ h' => stepT_acts.2 (.inr ⟨by rw [acts_same (fun t ht => he t (List.mem_append_left _ ht))]; exact ha, h'⟩)⟩

theorem Post.step (h : Post (opT P fid tg o) o.dst (rd o) ρ) (hr : ∀ h, ρ h h) : Post (stepT P fid ops tg o) o.dst (rdG ops o) ρ := by
  intro st K hk
  rcases stepT_acts.1 hk with ⟨ha, hk⟩ | ⟨ha, hk⟩
  · obtain ⟨v, h', h0, h1, h2⟩ := h _ _ hk
    exact ⟨v, h', h0, h1, fun st' K' he hs h' => stepT_acts.2 (.inl ⟨by rw [acts_same (fun t ht => he t (List.mem_append_left _ ht))]; exact ha, h2 _ _ (fun t ht => he t (List.mem_append_right _ ht)) hs h'⟩)⟩
  · exact ⟨.un, st.hp, hr _, hk, fun st' K' he hs h' => stepT_acts.2 (.inr ⟨by rw [acts_same (fun t ht => he t (List.mem_append_left _ ht))]; exact ha, by rw [← hs] at h'; exact h'⟩)⟩
end

def isAl : Op → Bool
  | .alloc _ => true
  | .box _ _ => true
  | _ => false
def isMk : Op → Bool
  | .makeSlice _ _ _ => true
  | .makeMap _ _ => true
  | _ => false
def isMe : Op → Bool
  | .mapEntry _ _ _ => true
  | .entryStore _ _ _ _ => true
  | _ => false
def isAp : Op → Bool
  | .call ⟨.builtin .append, _, _⟩ => true
  | _ => false
def isSt : Op → Bool
  | .store _ _ _ => true
  | _ => false
def isCv : Op → Bool
  | .call ⟨.value _, _, _⟩ => true
  | _ => false

def qS (tg : Tg) (o : Oper) : Bool := match tg with
  | .plain => isS o.op
  | .pure => true
  | _ => false
def qL (tg : Tg) (o : Oper) : Bool := match tg with
  | .plain => isL o.op
  | .avoid _ => isL o.op
  | _ => false
def qB (tg : Tg) (_ : Oper) : Bool := match tg with
  | .blk => true
  | _ => false
def pSub (tg : Tg) (o : Oper) : Bool := match tg with
  | .plain => isAl o.op || isMk o.op
  | _ => false
def pBlk (tg : Tg) (o : Oper) : Bool := match tg with
  | .plain => isMk o.op || isAp o.op || isMe o.op
  | _ => false
def pAny (tg : Tg) (o : Oper) : Bool := match tg with
  | .plain => isAl o.op || isMk o.op || isAp o.op || isMe o.op || isSt o.op
  | .mine => isSt o.op
  | _ => false
def quiet (tg : Tg) (o : Oper) : Bool := qS tg o || qL tg o || qB tg o
def post (tg : Tg) (o : Oper) : Bool := quiet tg o || pAny tg o
def calls (tg : Tg) (o : Oper) : Bool := match tg with
  | .plain => isCv o.op
  | _ => false

section
variable {P : Program} {fid : Nat} {ops : List Oper} {tg : Tg} {o : Oper}

theorem qS_sound (h : qS tg o = true) : Quiet (opT P fid tg o) o.dst (rd o) (fun _ _ => True) := by
  cases tg <;> simp only [qS] at h <;> first | exact absurd h Bool.false_ne_true | skip
  · exact quiet_S h
  · exact quiet_P
theorem qL_sound (h : qL tg o = true) : Quiet (opT P fid tg o) o.dst (rd o) Sub := by
  cases tg <;> simp only [qL] at h <;> first | exact absurd h Bool.false_ne_true | skip
  · exact quiet_L h
  · intro st K hk
    obtain ⟨ha, hk⟩ := hk
    obtain ⟨v, h1, h2⟩ := quiet_L h _ _ hk
    refine ⟨v, h1, fun st' K' he hs h' => ⟨?_, h2 _ _ he hs h'⟩⟩
    unfold avoidO at ha ⊢
    unfold rd at he
    cases hop : o.op <;> rw [hop] at ha he <;> first | exact ha.elim | skip
    rename_i t x
    simp only at ha ⊢
    rw [ev_same he (x := x) (by simp [Op.operands])]; exact ha
theorem qB_sound (h : qB tg o = true) : Quiet (opT P fid tg o) o.dst (rd o) BlkUp := by
  cases tg <;> simp only [qB] at h <;> first | exact absurd h Bool.false_ne_true | skip
  exact quiet_B
theorem BlkUp.of_sub {h h' : Hp} (hs : Sub h h') : BlkUp h h' := fun L hl => hs L hl.live
theorem quiet_sound (h : quiet tg o = true) : Quiet (opT P fid tg o) o.dst (rd o) (fun h h' => h' = h) := by
  simp only [quiet, Bool.or_eq_true] at h
  have weak : ∀ {σ : Hp → Hp → Prop}, (∀ h, σ h h) → Quiet (opT P fid tg o) o.dst (rd o) σ → Quiet (opT P fid tg o) o.dst (rd o) (fun h h' => h' = h) := by
    intro σ hσ hq st K hk
    obtain ⟨v, h1, h2⟩ := hq _ _ hk
    exact ⟨v, h1, fun st' K' he hs h' => h2 _ _ he (by rw [hs]; exact hσ _) h'⟩
  rcases h with (h | h) | h
  · exact weak (fun _ => trivial) (qS_sound h)
  · exact weak (fun _ _ _ => rfl) (qL_sound h)
  · exact weak (fun _ _ _ => rfl) (qB_sound h)
theorem al_op (h : isAl o.op = true) : (∃ t, o.op = .alloc t) ∨ ∃ t x, o.op = .box t x := by
  cases hop : o.op <;> rw [hop] at h <;> first | (simp [isAl] at h; done) | skip
  · exact .inl ⟨_, rfl⟩
  · exact .inr ⟨_, _, rfl⟩
theorem mk_post (h : isMk o.op = true) : Post (opK P fid o) o.dst (rd o) (fun h h' => Sub h h' ∧ BlkEq h h') := by
  cases hop : o.op <;> rw [hop] at h <;> first | (simp [isMk] at h; done) | skip
  · exact post_makeMap hop
  · exact post_makeSlice hop
theorem me_post (h : isMe o.op = true) : Post (opK P fid o) o.dst (rd o) BlkEq := by
  cases hop : o.op <;> rw [hop] at h <;> first | (simp [isMe] at h; done) | skip
  · exact post_mapEntry hop
  · exact post_entryStore hop
theorem st_op (h : isSt o.op = true) : ∃ t x y, o.op = .store t x y := by
  cases hop : o.op <;> rw [hop] at h <;> first | (simp [isSt] at h; done) | skip
  exact ⟨_, _, _, rfl⟩
theorem ap_op (h : isAp o.op = true) : ∃ args ats, o.op = .call ⟨.builtin .append, args, ats⟩ := by
  cases hop : o.op <;> rw [hop] at h <;> first | (simp [isAp] at h; done) | skip
  rename_i c
  obtain ⟨callee, args, ats⟩ := c
  cases callee with
  | value f => simp [isAp] at h
  | invoke r m => simp [isAp] at h
  | builtin b => cases b <;> first | (simp [isAp] at h; done) | exact ⟨_, _, rfl⟩
theorem cv_op (h : isCv o.op = true) : ∃ f args ats, o.op = .call ⟨.value f, args, ats⟩ := by
  cases hop : o.op <;> rw [hop] at h <;> first | (simp [isCv] at h; done) | skip
  rename_i c
  obtain ⟨callee, args, ats⟩ := c
  cases callee with
  | value f => exact ⟨_, _, _, rfl⟩
  | invoke r m => simp [isCv] at h
  | builtin b => simp [isCv] at h

theorem pSub_sound (h : pSub tg o = true) : Post (opT P fid tg o) o.dst (rd o) Sub := by
  cases tg <;> simp only [pSub, Bool.or_eq_true] at h <;> first | exact absurd h Bool.false_ne_true | skip
  rcases h with h | h
  · exact post_alloc (al_op h)
  · exact (mk_post h).mono fun _ _ h => h.1
theorem pBlk_sound (h : pBlk tg o = true) : Post (opT P fid tg o) o.dst (rd o) BlkEq := by
  cases tg <;> simp only [pBlk, Bool.or_eq_true] at h <;> first | exact absurd h Bool.false_ne_true | skip
  rcases h with (h | h) | h
  · exact (mk_post h).mono fun _ _ h => h.2
  · obtain ⟨args, ats, hop⟩ := ap_op h
    exact post_append hop
  · exact me_post h
theorem mine_store {t : TypeId} {x y : Operand} (hop : o.op = .store t x y) : Post (opT P fid .mine o) o.dst (rd o) (fun h h' => ∀ L, ¬ (L.f = fid ∧ x = .tmp L.s) → h'.con L = h.con L) := by
  intro st K hk
  obtain ⟨ha, hk⟩ := hk
  unfold mineO at ha
  rw [hop] at ha
  cases x with
  | tmp q =>
    simp only at ha
    have hk' := hk
    unfold opK at hk'
    rw [hop] at hk'
    simp only at hk'
    obtain ⟨q1, q2, q3, hk'⟩ := hk'
    obtain ⟨v, h', _, p2, p3⟩ := post_store hop _ _ hk
    -- the heap behind the store
    have main : ∃ h', (∀ L, ¬ (L.f = fid ∧ Operand.tmp q = .tmp L.s) → h'.con L = st.hp.con L) ∧ K ((st.withHp h').put o.dst .un) ∧ ∀ K' : Hp → Prop, K' h' → storeP st.hp (tsz P t) (st.ev (.tmp q)) (st.ev y).cells K' := by
      unfold storeP at hk'
      unfold mineK at ha
      simp only [St.ev] at hk' ⊢
      split at hk'
      · rename_i L sz i j hx
        rw [hx] at ha
        have hne : ∀ {c : Con} (M : Lab), ¬ (M.f = fid ∧ Operand.tmp q = .tmp M.s) → (st.hp.set L c).con M = st.hp.con M := by
          intro c M hM
          apply set_con_ne
          intro hE
          subst hE
          exact hM ⟨ha.1, by rw [ha.2]⟩
        unfold storeC at hk'
        split at hk'
        · rename_i cs hcon
          obtain ⟨h1, h2, hk'⟩ := hk'
          exact ⟨_, fun M hM => hne M hM, hk', fun K' h' => by rw [hx]; unfold storeP storeC; dsimp only; rw [hcon]; exact ⟨h1, h2, h'⟩⟩
        · rename_i sz' xs hcon
          obtain ⟨h1, hi, h2, hk'⟩ := hk'
          exact ⟨_, fun M hM => hne M hM, hk', fun K' h' => by rw [hx]; unfold storeP storeC; dsimp only; rw [hcon]; exact ⟨h1, hi, h2, h'⟩⟩
        · exact hk'.elim
      · exact hk'.elim
    obtain ⟨h'', m1, m2, m3⟩ := main
    refine ⟨.un, h'', m1, m2, fun st' K' he hh hK' => ?_⟩
    unfold rd at he
    have e1 : st'.ev (.tmp q) = st.ev (.tmp q) := ev_same he (by rw [hop]; simp [Op.operands])
    have e2 : st'.ev y = st.ev y := ev_same he (by rw [hop]; simp [Op.operands])
    refine ⟨?_, ?_⟩
    · unfold mineO; rw [hop]; simp only
      have : st'.slots q = st.slots q := e1
      rw [this]; exact ha
    · unfold opK; rw [hop]; dsimp only
      rw [e1, e2, hh]
      exact ⟨q1, q2, q3, m3 (fun h => K' ((st'.withHp h).put o.dst .un)) hK'⟩
  | _ => exact ha.elim

theorem post_sound (h : post tg o = true) : Post (opT P fid tg o) o.dst (rd o) (fun _ _ => True) := by
  simp only [post, Bool.or_eq_true] at h
  rcases h with h | h
  · exact ((quiet_sound h).post (fun _ => rfl)).mono fun _ _ _ => trivial
  · cases tg <;> simp only [pAny, Bool.or_eq_true] at h <;> first | exact absurd h Bool.false_ne_true | skip
    · rcases h with (((h | h) | h) | h) | h
      · exact (post_alloc (al_op h)).mono fun _ _ _ => trivial
      · exact (mk_post h).mono fun _ _ _ => trivial
      · obtain ⟨args, ats, hop⟩ := ap_op h
        exact (post_append hop).mono fun _ _ _ => trivial
      · exact (me_post h).mono fun _ _ _ => trivial
      · obtain ⟨t, x, y, hop⟩ := st_op h
        exact post_store hop
    · obtain ⟨t, x, y, hop⟩ := st_op h
      exact (mine_store hop).mono fun _ _ _ => trivial

theorem calls_mono (h : calls tg o = true) {st : St} {K K' : St → Prop} (hk : opT P fid tg o st K) (hK : ∀ s, K s → K' s) : opT P fid tg o st K' := by
  cases tg <;> simp only [calls] at h <;> first | exact absurd h Bool.false_ne_true | skip
  obtain ⟨f, args, ats, hop⟩ := cv_op h
  simp only [opT] at hk ⊢
  unfold opK at hk ⊢
  rw [hop] at hk ⊢
  simp only [calleeK, Callee.ev] at hk ⊢
  unfold callV at hk ⊢
  split at hk
  · exact ⟨hk.1, hk.2.mono fun _ _ h => hK _ h⟩
  · exact hk.mono fun _ _ h => hK _ h
  · exact hk.elim

theorem step_mono (h : (post tg o || calls tg o) = true) {st : St} {K K' : St → Prop} (hk : stepT P fid ops tg o st K) (hK : ∀ s, K s → K' s) : stepT P fid ops tg o st K' := by
  rcases stepT_acts.1 hk with ⟨ha, hk⟩ | ⟨ha, hk⟩
  · refine stepT_acts.2 (.inl ⟨ha, ?_⟩)
    simp only [Bool.or_eq_true] at h
    rcases h with h | h
    · obtain ⟨v, h', _, h1, h2⟩ := post_sound h _ _ hk
      exact h2 st K' (fun _ _ => rfl) rfl (hK _ h1)
    · exact calls_mono h hk hK
  · exact stepT_acts.2 (.inr ⟨ha, hK _ hk⟩)

end

end Go.T
/- Regions whose order is drawn, second part: any order that the edges allow comes to the one of the numbers. -/
namespace Go.T
open Go
set_option linter.unusedSimpArgs false

/-- Two operations of which neither writes what the other reads or writes. -/
def noConf (ops : List Oper) (x i : Oper) : Bool :=
  (match i.dst with | some d => !(rdG ops x).contains d | none => true) &&
  (match x.dst with | some d => !(rdG ops i).contains d && !(i.dst == some d) | none => true)

theorem noConf_spec {ops : List Oper} {x i : Oper} (h : noConf ops x i = true) :
    (∀ d, i.dst = some d → d ∉ rdG ops x) ∧ (∀ d, x.dst = some d → d ∉ rdG ops i) ∧ (∀ d, x.dst = some d → i.dst ≠ some d) := by
  unfold noConf at h
  simp only [Bool.and_eq_true] at h
  obtain ⟨h1, h2⟩ := h
  refine ⟨fun d hd => ?_, fun d hd => ?_, fun d hd => ?_⟩
  · rw [hd] at h1; simpa using h1
  · rw [hd] at h2; simp only [Bool.and_eq_true] at h2; simpa using h2.1
  · rw [hd] at h2; simp only [Bool.and_eq_true] at h2; simpa using h2.2

def apart2 (tx ti : Tg) (x i : Oper) : Bool :=
  (match tx, ti with
    | .avoid ss, .mine => isL x.op && isSt i.op && (match x.op, i.op with | .load _ _, .store _ (.tmp q) _ => ss.contains q | _, _ => false)
    | _, _ => false)
def al2 (tx ti : Tg) (x i : Oper) : Bool :=
  (match tx, ti with
    | .plain, .plain => isAl x.op && isAl i.op && x.guard.isNone && i.guard.isNone && x.dst.isSome && i.dst.isSome
    | _, _ => false)

/-- A map's element is read, and its entry is looked for: the same map, the same key. -/
def lkme (tx ti : Tg) (x i : Oper) : Bool :=
  (match tx, ti with
    | .plain, .plain => x.guard.isNone && i.guard.isNone && x.dst.isSome && i.dst.isSome && (match x.op, i.op with
      | .lookup t (.tmp m) (.tmp k) false, .mapEntry t' (.tmp m') (.tmp k') => t == t' && m == m' && k == k'
      | _, _ => false)
    | _, _ => false)

/-- Whether the later operation may go ahead of the earlier one. -/
def pairOK (ops : List Oper) (tx ti : Tg) (x i : Oper) : Bool :=
  noConf ops x i && ((qS tx x && post ti i) || (qL tx x && (quiet ti i || pSub ti i)) || (qB tx x && (quiet ti i || pSub ti i || pBlk ti i)) ||
    (post tx x && qS ti i) || (quiet tx x && quiet ti i) || (pBlk tx x && qB ti i) || apart2 tx ti x i || al2 tx ti x i || lkme tx ti x i)

section
variable {P : Program} {fid : Nat} {ops : List Oper}

theorem fresh_alloc {h : Hp} {f s s' : Nat} {c : Con} (hne : s ≠ s') : (h.alloc f s c).fresh f s' = h.fresh f s' := by
  simp [Hp.fresh, Hp.alloc, Ne.symm hne]
theorem alloc_comm {h : Hp} {f s s' : Nat} {c c' : Con} (hne : s ≠ s') : (h.alloc f s c).alloc f s' c' = (h.alloc f s' c').alloc f s c := by
  unfold Hp.alloc
  congr 1
  · funext M
    simp only
    by_cases h1 : M = ⟨f, s', h.cnt f s'⟩
    · subst h1
      simp [Ne.symm hne]
    · by_cases h2 : M = ⟨f, s, h.cnt f s⟩
      · subst h2
        simp [hne]
      · simp [h1, h2, hne, Ne.symm hne]
  · funext g t
    simp only
    by_cases h1 : g = f ∧ t = s'
    · obtain ⟨rfl, rfl⟩ := h1
      simp [Ne.symm hne]
    · by_cases h2 : g = f ∧ t = s
      · obtain ⟨rfl, rfl⟩ := h2
        simp [hne]
      · simp [h1, h2]

/-- A new variable: what it holds hangs on the operands alone. -/
def AlF (fid : Nat) (F : St → (St → Prop) → Prop) (d : Nat) (rds : List Nat) : Prop :=
  ∀ st K, F st K → ∃ c, K ((st.withHp (st.hp.alloc fid d c)).put (some d) (.pt (st.hp.fresh fid d) 0 0 0)) ∧
    ∀ (st' : St) (K' : St → Prop), (∀ t ∈ rds, st'.slots t = st.slots t) → K' ((st'.withHp (st'.hp.alloc fid d c)).put (some d) (.pt (st'.hp.fresh fid d) 0 0 0)) → F st' K'

theorem al_form {o : Oper} {d : Nat} (ho : isAl o.op = true) (hd : o.dst = some d) (hg : o.guard = none) : AlF fid (stepT P fid ops .plain o) d (rdG ops o) := by
  intro st K hk
  have hs : ∀ {st K}, stepT P fid ops .plain o st K = opK P fid o st K := by intro st K; simp [stepT, guardG, hg, opT]
  rw [hs] at hk
  unfold opK at hk
  rcases al_op ho with ⟨t, hop⟩ | ⟨t, x, hop⟩ <;> rw [hop] at hk <;> dsimp only at hk <;> rw [hd] at hk
  · refine ⟨_, hk.2, fun st' K' he h' => ?_⟩
    rw [hs]; unfold opK; rw [hop, hd]; exact ⟨hk.1, h'⟩
  · obtain ⟨h1, h2⟩ := hk
    refine ⟨_, h2, fun st' K' he h' => ?_⟩
    rw [hs]; unfold opK; rw [hop, hd]; dsimp only
    have he' : ∀ t ∈ tmpsOf o.op.operands.toList, st'.slots t = st.slots t := fun t ht => he t (List.mem_append_right _ ht)
    rw [ev_same he' (x := x) (by rw [hop]; simp [Op.operands])]; exact ⟨h1, h'⟩

theorem swap_al {F G : St → (St → Prop) → Prop} {dF dG : Nat} {rF rG : List Nat} (hF : AlF fid F dF rF) (hG : AlF fid G dG rG) (h1 : dG ∉ rF) (h2 : dF ∉ rG) (h3 : dF ≠ dG) {st : St} {K : St → Prop} (h : F st (fun s => G s K)) : G st (fun s => F s K) := by
  obtain ⟨c, p1, p2⟩ := hF _ _ h
  obtain ⟨c', q1, q2⟩ := hG _ _ p1
  refine q2 st _ (fun t ht => ?_) (p2 _ _ (fun t ht => ?_) ?_)
  · rw [agree_put (d := some dF) (by rintro x hx; injection hx with hx; subst hx; exact h2) t ht]; rfl
  · rw [agree_put (d := some dG) (by rintro x hx; injection hx with hx; subst hx; exact h1) t ht]; rfl
  · have e : (((st.withHp (st.hp.alloc fid dG c')).put (some dG) (.pt (st.hp.fresh fid dG) 0 0 0)).withHp (((st.withHp (st.hp.alloc fid dG c')).put (some dG) (.pt (st.hp.fresh fid dG) 0 0 0)).hp.alloc fid dF c)).put (some dF)
        (.pt (((st.withHp (st.hp.alloc fid dG c')).put (some dG) (.pt (st.hp.fresh fid dG) 0 0 0)).hp.fresh fid dF) 0 0 0) =
      (((st.withHp (st.hp.alloc fid dF c)).put (some dF) (.pt (st.hp.fresh fid dF) 0 0 0)).withHp (((st.withHp (st.hp.alloc fid dF c)).put (some dF) (.pt (st.hp.fresh fid dF) 0 0 0)).hp.alloc fid dG c')).put (some dG)
        (.pt (((st.withHp (st.hp.alloc fid dF c)).put (some dF) (.pt (st.hp.fresh fid dF) 0 0 0)).hp.fresh fid dG) 0 0 0) := by
      refine St.ext (fun i => ?_) ?_
      · simp only [put_slots, withHp_slots, put_hp, withHp_hp]
        rw [fresh_alloc (Ne.symm h3), fresh_alloc h3]
        by_cases hi : i = dF
        · subst hi; simp [h3]
        · simp [hi]
      · simp only [put_hp, withHp_hp]
        exact alloc_comm (Ne.symm h3)
    rw [e]; exact q1

theorem avoid_quiet {ss : List Nat} {o : Oper} : Quiet (opT P fid (.avoid ss) o) o.dst (rd o) (fun h h' => ∀ L, ¬ (L.f = fid ∧ L.s ∈ ss) → h'.con L = h.con L) := by
  intro st K hk
  obtain ⟨ha, hk⟩ := hk
  unfold avoidO at ha
  cases hop : o.op <;> rw [hop] at ha <;> first | exact ha.elim | skip
  rename_i t x
  simp only at ha
  unfold opK at hk
  rw [hop] at hk
  dsimp only at hk
  obtain ⟨v, h1, h2⟩ := fn_loadK _ hk.2
  refine ⟨v, h1, fun st' K' he hs h' => ?_⟩
  unfold rd at he
  have e1 : st'.ev x = st.ev x := ev_same he (by rw [hop]; simp [Op.operands])
  refine ⟨by unfold avoidO; rw [hop]; simp only; rw [e1]; exact ha, ?_⟩
  unfold opK; rw [hop]; dsimp only
  rw [e1]
  refine ⟨hk.1, ?_⟩
  have := h2 (fun v => K' (st'.put o.dst v)) h'
  unfold loadK at this ⊢
  unfold avoidK at ha
  split at this
  · exact this
  · rename_i L sz i j hx
    rw [hx] at ha
    simp only at ha
    rw [hs L (fun ⟨q1, q2⟩ => ha q1 q2)]; exact this
  · exact this.elim

theorem cellsEq_self : ∀ cs : List AV, cs.all AV.isInt = true → cellsEq cs cs = some true := by
  intro cs
  induction cs with
  | nil => intro _; rfl
  | cons c r ih =>
    intro h
    rw [List.all_cons, Bool.and_eq_true] at h
    cases c <;> simp only [AV.isInt, Bool.false_eq_true, false_and] at h
    simp [cellsEq, ih h.2]
theorem findM_app {cs : List AV} {e : AV × AV × Nat} (he : keyEq cs e.1 = some true) : ∀ (es : List (AV × AV × Nat)) (n : Nat), findM cs es n = some .none → findM cs (es ++ [e]) n = some (some (n + es.length)) := by
  intro es
  induction es with
  | nil => intro n _; simp [findM, he]
  | cons a r ih =>
    intro n h
    simp only [findM, List.cons_append] at h ⊢
    cases hk : keyEq cs a.1 with
    | none => rw [hk] at h; cases h
    | some b =>
      rw [hk] at h
      cases b with
      | true => simp at h
      | false =>
        simp only at h ⊢
        rw [ih (n + 1) h]
        simp; omega
theorem swap_lkme {x i : Oper} {t : TypeId} {m k d d' : Nat} (ox : x.op = .lookup t (.tmp m) (.tmp k) false) (oi : i.op = .mapEntry t (.tmp m) (.tmp k)) (hd : x.dst = some d) (hd' : i.dst = some d') (m1 : d ≠ m ∧ d ≠ k) (m2 : d' ≠ m ∧ d' ≠ k) (hne : d ≠ d')
    {st : St} {K : St → Prop} (hk : opK P fid x st (fun s => opK P fid i s K)) : opK P fid i st (fun s => opK P fid x s K) := by
  unfold opK at hk ⊢
  rw [ox] at hk
  rw [oi]
  dsimp only at hk ⊢
  simp only [opK, ox, oi, hd, hd'] at hk ⊢
  have fin : ∀ (v w : AV) (h' : Hp), (((st.put (some d) v).withHp h').put (some d') w) = (((st.withHp h').put (some d') w).put (some d) v) := by
    intro v w h'
    refine St.ext (fun j => ?_) rfl
    simp only [put_slots, withHp_slots]
    by_cases h1 : j = d'
    · subst h1; simp [Ne.symm hne]
    · simp [h1]
  unfold lookupK at hk
  unfold mapEntryK
  cases hT : tk P t <;> rw [hT] at hk <;> try exact hk.elim
  rename_i kt et
  simp only at hk ⊢
  obtain ⟨ht, hk⟩ := hk
  refine ⟨ht, ?_⟩
  have e1 : ∀ v, (st.put (some d) v).ev (.tmp m) = st.ev (.tmp m) := fun v => by simp [St.ev, St.put, Ne.symm m1.1]
  have e2 : ∀ v, (st.put (some d) v).ev (.tmp k) = st.ev (.tmp k) := fun v => by simp [St.ev, St.put, Ne.symm m1.2]
  have e3 : ∀ h' w, ((st.withHp h').put (some d') w).ev (.tmp m) = st.ev (.tmp m) := fun h' w => by simp [St.ev, St.put, St.withHp, Ne.symm m2.1]
  have e4 : ∀ h' w, ((st.withHp h').put (some d') w).ev (.tmp k) = st.ev (.tmp k) := fun h' w => by simp [St.ev, St.put, St.withHp, Ne.symm m2.2]
  simp only [e1, e2, e3, e4] at hk ⊢
  unfold keyK at hk ⊢
  cases hx : st.ev (.tmp k) <;> rw [hx] at hk <;> try exact hk.elim
  rename_i cs
  simp only at hk ⊢
  obtain ⟨k1, k2, k3, hk⟩ := hk
  refine ⟨k1, k2, k3, ?_⟩
  unfold lookM at hk
  unfold entryM
  cases hm : st.ev (.tmp m) <;> rw [hm] at hk <;> try exact hk.elim
  · -- a nil map
    simp only [mres] at hk
    unfold mapEntryK at hk
    simp only [hT, keyK, hx, entryM] at hk
    exact hk.2.2.2.2.elim
  rename_i L
  simp only at hk ⊢
  unfold lookC at hk
  unfold entryC
  cases hc : st.hp.con L <;> rw [hc] at hk <;> try exact hk.elim
  rename_i es ck
  simp only at hk ⊢
  obtain ⟨r, f1, hk⟩ := hk
  unfold lookR at hk
  cases r with
  | none =>
    simp only [mres, Bool.false_eq_true, if_false] at hk
    unfold mapEntryK at hk
    simp only [hT, keyK, hx, entryM, hm, entryC, put_hp, hc] at hk
    obtain ⟨_, _, _, _, r2, f2, hk⟩ := hk
    rw [f1] at f2
    obtain rfl : r2 = none := by injection f2 with f2; exact f2.symm
    refine ⟨none, f1, ?_⟩
    simp only [entryR] at hk ⊢
    unfold lookupK
    simp only [hT, keyK, hx, lookM, hm, lookC, put_hp, withHp_hp]
    refine ⟨ht, k1, k2, k3, ?_⟩
    have hcon : (st.hp.set L (.mp (es ++ [(.agg cs, tzero P et, ck)]) (ck + 1))).con L = .mp (es ++ [(.agg cs, tzero P et, ck)]) (ck + 1) := by simp [Hp.set, hc, Con.keep]
    rw [hcon]
    refine ⟨some es.length, by have := findM_app (e := (.agg cs, tzero P et, ck)) (by simp only [keyEq]; exact cellsEq_self cs k3) es 0 f1; simpa using this, ?_⟩
    simp only [lookR]
    refine ⟨by simp, ?_⟩
    rw [← fin]
    simpa [mres] using hk
  | some j =>
    simp only at hk
    obtain ⟨hj, hk⟩ := hk
    unfold mapEntryK at hk
    simp only [hT, keyK, hx, entryM, hm, entryC, put_hp, hc] at hk
    obtain ⟨_, _, _, _, r2, f2, hk⟩ := hk
    rw [f1] at f2
    obtain rfl : r2 = some j := by injection f2 with f2; exact f2.symm
    refine ⟨some j, f1, ?_⟩
    simp only [entryR] at hk ⊢
    obtain ⟨_, hk⟩ := hk
    refine ⟨hj, ?_⟩
    unfold lookupK
    simp only [hT, keyK, hx, lookM, hm, lookC, put_hp, withHp_hp, hc]
    refine ⟨ht, k1, k2, k3, some j, f1, ?_⟩
    simp only [lookR]
    refine ⟨hj, ?_⟩
    rw [← fin]
    simpa [mres] using hk

theorem pair_swap {tx ti : Tg} {x i : Oper} (h : pairOK ops tx ti x i = true) {st : St} {K : St → Prop} (hk : stepT P fid ops tx x st (fun s => stepT P fid ops ti i s K)) : stepT P fid ops ti i st (fun s => stepT P fid ops tx x s K) := by
  unfold pairOK at h
  rw [Bool.and_eq_true] at h
  obtain ⟨hc, h⟩ := h
  obtain ⟨c1, c2, c3⟩ := noConf_spec hc
  simp only [Bool.or_eq_true, Bool.and_eq_true] at h
  have qpost : ∀ {tg o}, quiet tg o = true → Post (stepT P fid ops tg o) o.dst (rdG ops o) (fun h h' => h' = h) := fun hq => ((quiet_sound hq).post (fun _ => rfl)).step (fun _ => rfl)
  have anyp : ∀ {tg o}, post tg o = true → Post (stepT P fid ops tg o) o.dst (rdG ops o) (fun _ _ => True) := fun hq => (post_sound hq).step (fun _ => trivial)
  have subp : ∀ {tg o}, pSub tg o = true → Post (stepT P fid ops tg o) o.dst (rdG ops o) Sub := fun hq => (pSub_sound hq).step (fun _ _ _ => rfl)
  have blkp : ∀ {tg o}, pBlk tg o = true → Post (stepT P fid ops tg o) o.dst (rdG ops o) BlkEq := fun hq => (pBlk_sound hq).step (fun _ _ _ => rfl)
  rcases h with ((((((((⟨h1, h2⟩ | ⟨h1, h2⟩) | ⟨h1, h2⟩) | ⟨h1, h2⟩) | ⟨h1, h2⟩) | ⟨h1, h2⟩) | h1) | h1) | h1)
  · exact swap_quiet_post (qS_sound h1).step (anyp h2) (fun _ _ _ => trivial) c1 c2 c3 hk
  · rcases h2 with h2 | h2
    · exact swap_quiet_post (qL_sound h1).step (qpost h2) (fun _ _ e _ _ => by rw [e]) c1 c2 c3 hk
    · exact swap_quiet_post (qL_sound h1).step (subp h2) (fun _ _ e => e) c1 c2 c3 hk
  · rcases h2 with (h2 | h2) | h2
    · exact swap_quiet_post (qB_sound h1).step (qpost h2) (fun _ _ e _ _ => by rw [e]) c1 c2 c3 hk
    · exact swap_quiet_post (qB_sound h1).step (subp h2) (fun _ _ e => BlkUp.of_sub e) c1 c2 c3 hk
    · exact swap_quiet_post (qB_sound h1).step (blkp h2) (fun _ _ e L hL => e L (.inl hL)) c1 c2 c3 hk
  · exact swap_post_quiet (anyp h1) (qS_sound h2).step (fun _ _ _ => trivial) c1 c2 c3 hk
  · exact swap_post_quiet (qpost h1) (quiet_sound h2).step (fun _ _ e => e.symm) c1 c2 c3 hk
  · exact swap_post_quiet (blkp h1) (qB_sound h2).step (fun _ _ e L hL => (e L (.inr hL)).symm) c1 c2 c3 hk
  · unfold apart2 at h1
    cases tx <;> cases ti <;> first | exact absurd h1 Bool.false_ne_true | skip
    rename_i ss
    simp only [Bool.and_eq_true] at h1
    obtain ⟨⟨g1, g2⟩, g3⟩ := h1
    obtain ⟨t, a, y, hop⟩ := st_op g2
    split at g3
    · rename_i q _ _ hop'
      rw [hop] at hop'
      injection hop' with e1 e2 e3
      subst e2
      refine swap_quiet_post avoid_quiet.step ((mine_store hop).step (fun _ _ _ => rfl)) ?_ c1 c2 c3 hk
      intro h h' e L hL
      refine e L (fun ⟨q1, q2⟩ => hL ⟨q1, ?_⟩)
      injection q2 with q2
      subst q2
      simpa using g3
    · exact absurd g3 Bool.false_ne_true
  · unfold al2 at h1
    cases tx <;> cases ti <;> first | exact absurd h1 Bool.false_ne_true | skip
    simp only [Bool.and_eq_true, Option.isNone_iff_eq_none] at h1
    obtain ⟨⟨⟨⟨⟨g1, g2⟩, g3⟩, g4⟩, g5⟩, g6⟩ := h1
    obtain ⟨d, hd⟩ := Option.isSome_iff_exists.1 g5
    obtain ⟨d', hd'⟩ := Option.isSome_iff_exists.1 g6
    exact swap_al (al_form g1 hd g3) (al_form g2 hd' g4) (c1 _ hd') (c2 _ hd) (fun e => c3 _ hd (by rw [hd', e])) hk

  · unfold lkme at h1
    cases tx <;> cases ti <;> first | exact absurd h1 Bool.false_ne_true | skip
    simp only [Bool.and_eq_true, Option.isNone_iff_eq_none] at h1
    obtain ⟨⟨⟨⟨g1, g2⟩, g3⟩, g4⟩, g5⟩ := h1
    obtain ⟨d, hd⟩ := Option.isSome_iff_exists.1 g3
    obtain ⟨d', hd'⟩ := Option.isSome_iff_exists.1 g4
    split at g5
    · rename_i t m k t' m' k' ox oi
      simp only [Bool.and_eq_true, beq_iff_eq] at g5
      obtain ⟨⟨rfl, rfl⟩, rfl⟩ := g5
      have m1 : d ≠ m ∧ d ≠ k := by
        have := c2 d hd
        unfold rdG rd at this
        rw [oi] at this
        constructor <;> (rintro rfl; exact this (List.mem_append_right _ (by simp [Op.operands, tmpsOf])))
      have m2 : d' ≠ m ∧ d' ≠ k := by
        have := c1 d' hd'
        unfold rdG rd at this
        rw [ox] at this
        constructor <;> (rintro rfl; exact this (List.mem_append_right _ (by simp [Op.operands, tmpsOf])))
      have hsx : ∀ {st K}, stepT P fid ops .plain x st K = opK P fid x st K := by intro st K; simp [stepT, guardG, g1, opT]
      have hsi : ∀ {st K}, stepT P fid ops .plain i st K = opK P fid i st K := by intro st K; simp [stepT, guardG, g2, opT]
      rw [hsx] at hk
      simp only [hsi] at hk
      rw [hsi]
      simp only [hsx]
      exact swap_lkme ox oi hd hd' m1 m2 (fun e => c3 _ hd (by rw [hd', e])) hk
    · exact absurd g5 Bool.false_ne_true

/-- The i-th operation. -/
def stepAt (P : Program) (fid : Nat) (ops : List Oper) (tg : Nat → Tg) (i : Nat) (st : St) (K : St → Prop) : Prop :=
  match ops[i]? with
  | none => K st
  | some o => stepT P fid ops (tg i) o st K

theorem runL_cons {tg : Nat → Tg} {i : Nat} {r : List Nat} {st : St} {K : St → Prop} : runL P fid ops tg (i :: r) st K = stepAt P fid ops tg i st (fun s => runL P fid ops tg r s K) := by
  first
    | rfl
    | (simp only [runL, stepAt]; done)
    | (simp only [runL, stepAt]; cases ops[i]? <;> rfl)

def opOK (tg : Tg) (o : Oper) : Bool := post tg o || calls tg o

theorem stepAt_mono {tg : Nat → Tg} (hok : ∀ i o, ops[i]? = some o → opOK (tg i) o = true) {i : Nat} {st : St} {K K' : St → Prop} (h : stepAt P fid ops tg i st K) (hK : ∀ s, K s → K' s) : stepAt P fid ops tg i st K' := by
  unfold stepAt at *
  cases ho : ops[i]? with
  | none => rw [ho] at h; exact hK _ h
  | some o => rw [ho] at h; exact step_mono (hok i o ho) h hK

theorem bubble {tg : Nat → Tg} (hok : ∀ i o, ops[i]? = some o → opOK (tg i) o = true) {i : Nat} {l2 : List Nat} {K : St → Prop} : ∀ (l1 : List Nat) (st : St), (∀ x ∈ l1, ∀ (st : St) (K : St → Prop), stepAt P fid ops tg x st (fun s => stepAt P fid ops tg i s K) → stepAt P fid ops tg i st (fun s => stepAt P fid ops tg x s K)) →
    runL P fid ops tg (l1 ++ i :: l2) st K → stepAt P fid ops tg i st (fun s => runL P fid ops tg (l1 ++ l2) s K) := by
  intro l1
  induction l1 with
  | nil => intro st _ h; rw [List.nil_append, runL_cons] at h; exact h
  | cons x l1 ih =>
    intro st hs h
    rw [List.cons_append, runL_cons] at h
    have h1 := stepAt_mono hok h (fun s hs' => ih s (fun y hy => hs y (by simp [hy])) hs')
    have h2 := hs x (by simp) _ _ h1
    exact stepAt_mono hok h2 (fun s hs' => by rw [List.cons_append, runL_cons]; exact hs')

end

/-- The edges that bind whatever order is drawn. -/
def hard (o : Oper) : List Nat := (o.after.toList.filter (fun e => Region.binds .any e)).map (·.on)

/-- Behind which operations each one stands, through others too: aas the bits of a number. -/
def maskOf (acc : List Nat) (ps : List Nat) : Nat := ps.foldl (fun m p => m ||| (1 <<< p) ||| acc.getD p 0) 0
def masks : List Oper → List Nat → List Nat
  | [], acc => acc
  | o :: r, acc => masks r (acc ++ [maskOf acc (hard o)])

theorem maskOf_bit {acc ps : List Nat} {x : Nat} (h : (maskOf acc ps).testBit x = true) : ∃ p ∈ ps, x = p ∨ (acc.getD p 0).testBit x = true := by
  unfold maskOf at h
  have gen : ∀ (ps : List Nat) (m : Nat), (ps.foldl (fun m p => m ||| (1 <<< p) ||| acc.getD p 0) m).testBit x = true → m.testBit x = true ∨ ∃ p ∈ ps, x = p ∨ (acc.getD p 0).testBit x = true := by
    intro ps
    induction ps with
    | nil => intro m h; exact .inl h
    | cons p ps ih =>
      intro m h
      rcases ih _ h with h | ⟨q, hq, h⟩
      · simp only [Nat.testBit_or, Bool.or_eq_true] at h
        rcases h with (h | h) | h
        · exact .inl h
        · refine .inr ⟨p, by simp, .inl ?_⟩
          rw [Nat.one_shiftLeft, Nat.testBit_two_pow] at h
          simpa using (of_decide_eq_true h).symm
        · exact .inr ⟨p, by simp, .inr h⟩
      · exact .inr ⟨q, by simp [hq], h⟩
  rcases gen ps 0 h with h | h
  · simp at h
  · exact h

/-- Operations behind which the i-th stands are done once the i-th may come up. -/
theorem masks_spec : ∀ (ops pre : List Oper) (acc : List Nat), acc.length = pre.length → (∀ i o, pre[i]? = some o → ∀ x, (acc.getD i 0).testBit x = true → ∃ p ∈ hard o, x = p ∨ (acc.getD p 0).testBit x = true) →
    (∀ i o, (pre ++ ops)[i]? = some o → ∀ p ∈ hard o, p < i) →
    ∀ i o, (pre ++ ops)[i]? = some o → ∀ x, ((masks ops acc).getD i 0).testBit x = true → ∃ p ∈ hard o, x = p ∨ ((masks ops acc).getD p 0).testBit x = true := by
  intro ops
  induction ops with
  | nil => intro pre acc hl hI _ i o ho x hx; simp only [masks, List.append_nil] at *; exact hI i o ho x hx
  | cons o ops ih =>
    intro pre acc hl hI hp
    have hp' : ∀ i o', (pre ++ [o] ++ ops)[i]? = some o' → ∀ p ∈ hard o', p < i := by simpa using hp
    have := ih (pre ++ [o]) (acc ++ [maskOf acc (hard o)]) (by simp [hl]) ?_ hp'
    · simpa [masks] using this
    · intro i o' ho' x hx
      have get : ∀ p, p < pre.length → (acc ++ [maskOf acc (hard o)]).getD p 0 = acc.getD p 0 := by
        intro p hp
        simp only [List.getD_eq_getElem?_getD]
        rw [List.getElem?_append_left (by omega)]
      rcases Nat.lt_trichotomy i pre.length with hi | hi | hi
      · rw [List.getElem?_append_left (by omega)] at ho'
        rw [get i hi] at hx
        obtain ⟨p, h1, h2⟩ := hI i o' ho' x hx
        have hpi := hp i o' (by rw [List.getElem?_append_left (by omega)]; exact ho') p h1
        exact ⟨p, h1, by rw [get p (by omega)]; exact h2⟩
      · subst hi
        have ho'' : o' = o := by simpa using ho'.symm
        subst ho''
        have hx' : (acc ++ [maskOf acc (hard o')]).getD pre.length 0 = maskOf acc (hard o') := by
          rw [← hl]; simp
        rw [hx'] at hx
        obtain ⟨p, h1, h2⟩ := maskOf_bit hx
        have hpi := hp pre.length o' (by simp) p h1
        exact ⟨p, h1, by rw [get p hpi]; exact h2⟩
      · rw [List.getElem?_eq_none (by simp; omega)] at ho'; cases ho'

/-- What is asked of a region whose order is drawn. -/
def pairsOK (ops : List Oper) (tg : List Tg) (ms : List Nat) : Bool :=
  (List.range ops.length).all fun i => (List.range i).all fun x =>
    (ms.getD i 0).testBit x || (match ops[x]?, ops[i]? with
      | some ox, some oi => pairOK ops (tagAt tg x) (tagAt tg i) ox oi
      | _, _ => true)
def drawOK (ops : List Oper) (tg : List Tg) : Bool :=
  ((List.range ops.length).all fun i => match ops[i]? with
    | some o => opOK (tagAt tg i) o && (hard o).all (fun p => decide (p < i))
    | none => true) && pairsOK ops tg (masks ops [])

end Go.T
/- Regions whose order is drawn, third part: the machine's side. -/
namespace Go.T
open Go

section
variable {P : Program} {w0 : World} {B0 : Nat → Prop} {e0 : Env} {h0 : Hp} {n : Nat} {ds : List Deferred}

theorem getD_mem {listed : Array Bool} {j : Nat} (hj : j < listed.size) : listed.getD j true = listed.getD j false := by
  simp [hj]

theorem closed_masks {ops : List Oper} {ρ : List Nat} (hp : ∀ i o, ops[i]? = some o → ∀ p ∈ hard o, p < i) (hc : ∀ j o, ops[j]? = some o → j ∉ ρ → ∀ p ∈ hard o, p ∉ ρ) :
    ∀ i o, ops[i]? = some o → (∀ p ∈ hard o, p ∉ ρ) → ∀ x, ((masks ops []).getD i 0).testBit x = true → x ∉ ρ := by
  intro i
  induction i using Nat.strongRecOn with
  | _ i ih =>
    intro o ho hpre x hx
    obtain ⟨p, h1, h2⟩ := masks_spec ops [] [] rfl (fun i o h => by simp at h) (by simpa using hp) i o (by simpa using ho) x hx
    rcases h2 with rfl | h2
    · exact hpre _ h1
    · have hpi := hp i o ho p h1
      have hlt : p < ops.length := by
        have : i < ops.length := by
          rcases Nat.lt_or_ge i ops.length with h | h
          · exact h
          · rw [List.getElem?_eq_none h] at ho; cases ho
        omega
      exact ih p hpi ops[p] (List.getElem?_eq_getElem hlt) (hc p _ (List.getElem?_eq_getElem hlt) (hpre p h1)) x h2

theorem draw_any {fid : Nat} (ops : Array Oper) (hd : ∀ o ∈ ops.toList, ∀ x, o.dst = some x → x < n) (tgl : List Tg) (hok : drawOK ops.toList tgl = true) (r : Option Nat) (m : Nat) {Q : Ex → St → Prop} :
    ∀ (fuel : Nat) (ρ : List Nat) (listed : Array Bool) (st : St) (a : Act) (w : World) (B : Nat → Prop) (e : Env), listed.size = ops.size → ρ.length = fuel → ρ.Pairwise (· < ·) →
    (∀ j, j ∈ ρ ↔ (j < ops.size ∧ listed.getD j true = false)) → (∀ j o, ops.toList[j]? = some o → j ∉ ρ → ∀ p ∈ hard o, p ∉ ρ) →
    Rel w B e n st a → Ext w0 B0 e0 h0 w B e st.hp → a.defers = ds → runL P fid ops.toList (tagAt tgl) ρ st (Q .normal) →
    wpAnyIn (wr r) m P .any ops (Qm w0 B0 e0 h0 n ds Q) fuel listed a w := by
  unfold drawOK at hok
  rw [Bool.and_eq_true] at hok
  obtain ⟨hok1, hok2⟩ := hok
  have each : ∀ i o, ops.toList[i]? = some o → opOK (tagAt tgl i) o = true ∧ ∀ p ∈ hard o, p < i := by
    intro i o ho
    have hi : i < ops.toList.length := by
      rcases Nat.lt_or_ge i ops.toList.length with h | h
      · exact h
      · rw [List.getElem?_eq_none h] at ho; cases ho
    have := List.all_eq_true.1 hok1 i (List.mem_range.2 hi)
    rw [ho] at this
    simp only [Bool.and_eq_true] at this
    exact ⟨this.1, fun p hp => by have := List.all_eq_true.1 this.2 p hp; simpa using this⟩
  have pair : ∀ i x, i < ops.toList.length → x < i → ((masks ops.toList []).getD i 0).testBit x = false → ∀ ox oi, ops.toList[x]? = some ox → ops.toList[i]? = some oi → pairOK ops.toList (tagAt tgl x) (tagAt tgl i) ox oi = true := by
    intro i x hi hx hb ox oi hox hoi
    unfold pairsOK at hok2
    have h1 := List.all_eq_true.1 hok2 i (List.mem_range.2 hi)
    have h2 := List.all_eq_true.1 h1 x (List.mem_range.2 hx)
    rw [hb, hox, hoi] at h2
    simpa using h2
  intro fuel
  induction fuel with
  | zero =>
    intro ρ listed st a w B e hsz hlen hsort hmem hcl hr hx hds h
    have hnil : ρ = [] := List.length_eq_zero_iff.1 hlen
    subst hnil
    refine ⟨?_, .normal, rfl, st, B, e, h, hr, hx, hds⟩
    rw [List.eq_nil_iff_forall_not_mem]
    intro j hj
    obtain ⟨h1, o, ho, _⟩ := mem_ready.1 hj
    have hjs : j < ops.size := by
      rcases Nat.lt_or_ge j ops.size with h | h
      · exact h
      · rw [Array.getElem?_eq_none h] at ho; cases ho
    have := (hmem j).2 ⟨hjs, h1⟩
    simp at this
  | succ fuel ih =>
    intro ρ listed st a w B e hsz hlen hsort hmem hcl hr hx hds h
    have hmask := closed_masks (ρ := ρ) (fun i o ho => (each i o ho).2) hcl
    refine ⟨fun hnil => ?_, fun i hi => ?_⟩
    · exfalso
      cases hρ : ρ with
      | nil => rw [hρ] at hlen; simp at hlen
      | cons j ρ' =>
        have hj : j ∈ ρ := by rw [hρ]; simp
        obtain ⟨hjs, hjl⟩ := (hmem j).1 hj
        have hready : j ∈ Region.ready .any ops listed := by
          refine mem_ready.2 ⟨hjl, ops[j], Array.getElem?_eq_getElem hjs, fun ed hed hb => ?_⟩
          have hhard : ed.on ∈ hard ops[j] := List.mem_map.2 ⟨ed, List.mem_filter.2 ⟨by simpa using hed, hb⟩, rfl⟩
          have hlt := (each j ops[j] (by simp [hjs])).2 _ hhard
          have hn : ed.on ∉ ρ := by
            intro hin
            rw [hρ] at hin hsort
            rcases List.mem_cons.1 hin with h | h
            · omega
            · have := (List.pairwise_cons.1 hsort).1 _ h
              omega
          have hs : ed.on < ops.size := by omega
          have := mt (hmem ed.on).2 hn
          have hne : listed.getD ed.on true ≠ false := fun he => this ⟨hs, he⟩
          rw [getD_mem (by omega)] at hne
          cases hv : listed.getD ed.on false with
          | true => rfl
          | false => exact absurd hv hne
        rw [hnil] at hready
        simp at hready
    · obtain ⟨hil, o, ho, hpre⟩ := mem_ready.1 hi
      have his : i < ops.size := by
        rcases Nat.lt_or_ge i ops.size with h | h
        · exact h
        · rw [Array.getElem?_eq_none h] at ho; cases ho
      have hio : ops.toList[i]? = some o := by simpa using ho
      have hin : i ∈ ρ := (hmem i).2 ⟨his, hil⟩
      obtain ⟨l1, l2, hsplit⟩ := List.append_of_mem hin
      have hpre' : ∀ p ∈ hard o, p ∉ ρ := by
        intro p hp hpin
        obtain ⟨ed, hed, rfl⟩ := List.mem_map.1 hp
        obtain ⟨h1, h2⟩ := List.mem_filter.1 hed
        have h3 := hpre ed (by simpa using h1) h2
        obtain ⟨h4, h5⟩ := (hmem _).1 hpin
        rw [getD_mem (by omega), h3] at h5
        cases h5
      have hs1 : ∀ x ∈ l1, x < i := by
        rw [hsplit, List.pairwise_append] at hsort
        exact fun x hx => hsort.2.2 x hx i (by simp)
      have hs2 : ∀ x ∈ l2, i < x := by
        rw [hsplit, List.pairwise_append] at hsort
        exact fun x hx => (List.pairwise_cons.1 hsort.2.1).1 x hx
      have hsort' : (l1 ++ l2).Pairwise (· < ·) := by
        rw [hsplit, List.pairwise_append] at hsort
        rw [List.pairwise_append]
        exact ⟨hsort.1, (List.pairwise_cons.1 hsort.2.1).2, fun x hx y hy => hsort.2.2 x hx y (by simp [hy])⟩
      rw [hsplit] at h
      have hb := bubble (fun i o ho => (each i o ho).1) l1 st (fun x hxl st K hk => ?_) h
      · unfold stepAt at hb
        rw [hio] at hb
        unfold wpOpIn
        simp only [ho]
        refine step_wp ops hd r m ho hr hx hds hb ?_
        rintro a' w' ⟨st', B', e', g1, g2, g3, g4⟩
        refine ih (l1 ++ l2) (listed.setIfInBounds i true) st' a' w' B' e' (by simp [hsz]) (by rw [hsplit] at hlen; simp at hlen ⊢; omega) hsort' (fun j => ?_) (fun j oj hoj hj p hp => ?_) g2 g3 g4 g1
        · have e1 : j ∈ l1 ++ l2 ↔ j ∈ ρ ∧ j ≠ i := by
            rw [hsplit]
            simp only [List.mem_append, List.mem_cons]
            constructor
            · rintro (h | h)
              · exact ⟨.inl h, by have := hs1 j h; omega⟩
              · exact ⟨.inr (.inr h), by have := hs2 j h; omega⟩
            · rintro ⟨h | h | h, hne⟩
              · exact .inl h
              · exact absurd h hne
              · exact .inr h
          rw [e1, hmem j]
          by_cases hji : j = i
          · subst hji
            simp [hsz, his]
          · rw [getD_set_ne true (Ne.symm hji)]
            simp [hji]
        · have hpρ : p ∉ ρ := by
            by_cases hji : j = i
            · subst hji
              rw [hio] at hoj
              injection hoj with hoj
              subst hoj
              exact hpre' p hp
            · refine hcl j oj hoj (fun hjρ => hj ?_) p hp
              rw [hsplit] at hjρ
              simp only [List.mem_append, List.mem_cons] at hjρ ⊢
              rcases hjρ with h | h | h
              · exact .inl h
              · exact absurd h hji
              · exact .inr h
          intro hin'
          apply hpρ
          rw [hsplit]
          simp only [List.mem_append, List.mem_cons] at hin' ⊢
          rcases hin' with h | h
          · exact .inl h
          · exact .inr (.inr h)
      · have hxi := hs1 x hxl
        have hxs : x < ops.toList.length := by simp; omega
        have hbit : ((masks ops.toList []).getD i 0).testBit x = false := by
          cases hv : ((masks ops.toList []).getD i 0).testBit x with
          | false => rfl
          | true => exact absurd (by rw [hsplit]; simp [hxl]) (hmask i o hio hpre' x hv)
        have hox : ops.toList[x]? = some ops.toList[x] := List.getElem?_eq_getElem hxs
        have hp := pair i x (by simpa using his) hxi hbit _ _ hox hio
        unfold stepAt at hk ⊢
        rw [hox, hio] at hk
        rw [hio]
        have hk' : stepT P fid ops.toList (tagAt tgl x) ops.toList[x] st (fun s => stepT P fid ops.toList (tagAt tgl i) o s K) := hk
        have := pair_swap hp hk'
        simpa [hox] using this

theorem Rel.draw {w : World} {B : Nat → Prop} {e : Env} {st : St} {a : Act} (hr : Rel w B e n st a) : Rel { w with drawn := w.drawn + 1 } B e n st a := by
  have hm : ∀ {a v}, R w B (e.E st.hp) a v → R { w with drawn := w.drawn + 1 } B (e.E st.hp) a v := fun h => h.mono (fun _ _ => rfl) (fun _ h => h) (fun _ _ h => h)
  refine ⟨⟨fun L hk => ?_, hr.hp.inj, hr.hp.bnd⟩, fun i => hm (hr.slots i), hr.size⟩
  have hc := hr.hp.con L hk
  cases hcon : st.hp.con L with
  | none => trivial
  | blk cs =>
    rw [hcon] at hc
    obtain ⟨h1, h2, vs, T, h3, h4, h5⟩ := hc
    exact ⟨h1, h2, vs, T, h3, h4, fun j hj => hm (h5 j hj)⟩
  | arr sz xs =>
    rw [hcon] at hc
    obtain ⟨a', cap, h1, h2, h3, h4⟩ := hc
    refine ⟨a', cap, h1, h2, h3, ?_⟩
    rcases h4 with h4 | ⟨h5, h6, h7, vs, T, h8, h9, h10⟩
    · exact .inl h4
    · exact .inr ⟨h5, h6, h7, vs, T, h8, h9, fun i j hi hj => ⟨hm (h10 i j hi hj).1, (h10 i j hi hj).2⟩⟩
  | mp es ck =>
    rw [hcon] at hc
    obtain ⟨h1, ents, h3, h4, h5⟩ := hc
    exact ⟨h1, ents, h3, h4, fun j hj => ⟨hm (h5 j hj).1, hm (h5 j hj).2.1, (h5 j hj).2.2⟩⟩
  | lp sl m ps asg bd s =>
    rw [hcon] at hc
    obtain ⟨h1, r, h3, h4, h5, h6, h7, h8, h9⟩ := hc
    exact ⟨h1, r, h3, h4, h5, h6, h7, fun i => hm (h8 i), h9⟩

theorem Ext.draw {w : World} {B : Nat → Prop} {e : Env} {h : Hp} (x : Ext w0 B0 e0 h0 w B e h) : Ext w0 B0 e0 h0 { w with drawn := w.drawn + 1 } B e h :=
  ⟨x.size, x.os, x.tape, x.output, x.bsub, x.bnew, x.keep, x.onew, x.cnt, x.env, x.live⟩

/-- **A region whose order is drawn.** -/
theorem region_draw {fid : Nat} (hm : P.follows .mixedOrders = true) (id : Nat) (ops : Array Oper) (hd : ∀ o ∈ ops.toList, ∀ x, o.dst = some x → x < n) (tgl : List Tg) (hok : drawOK ops.toList tgl = true) (r : Option Nat) (m : Nat) {Q : Ex → St → Prop}
    {st : St} {a : Act} {w : World} {B : Nat → Prop} {e : Env} (hr : Rel w B e n st a) (hx : Ext w0 B0 e0 h0 w B e st.hp) (hds : a.defers = ds) (h : runL P fid ops.toList (tagAt tgl) (List.range ops.size) st (Q .normal)) :
    (Code.region id ops true).wpIn (wr r) m P (Qm w0 B0 e0 h0 n ds Q) a w := by
  refine wpIn_region_any hm ?_
  refine draw_any ops hd tgl hok r m ops.size (List.range ops.size) _ st a _ B e (by simp) (by simp) List.pairwise_lt_range (fun j => ?_) (fun j o ho hj => ?_) hr.draw hx.draw hds h
  · simp only [List.mem_range]
    constructor
    · intro hj; exact ⟨hj, by simp [hj]⟩
    · exact fun h => h.1
  · exfalso
    apply hj
    rw [List.mem_range]
    rcases Nat.lt_or_ge j ops.size with h | h
    · exact h
    · rw [List.getElem?_eq_none (by simpa using h)] at ho; cases ho

end

end Go.T
/- Soundness: blocks that no label owns; a range's record is let go and taken up again. -/
namespace Go.T
open Go

/-- What a label that holds c owns a block for. -/
def Env.own (e : Env) (L : Lab) : Con → Prop
  | .none => False
  | .arr _ _ => ∃ a n c, e.η L = .slice a n c ∧ c ≠ 0
  | _ => True
theorem own_has {e : Env} {h : Hp} {L : Lab} (hk : L.k < h.cnt L.f L.s) (ho : e.own L (h.con L)) : e.has h L := by
  refine ⟨hk, ?_⟩
  unfold Env.own at ho
  cases hc : h.con L <;> rw [hc] at ho <;> simp_all

theorem ConRel.move {w w' : World} {B B' : Nat → Prop} {e e' : Env} {h h' : Hp} {L : Lab} {c : Con} (hR : ∀ a v, R w B (e.E h) a v → R w' B' (e'.E h') a v) (hβ : e'.β L = e.β L) (hη : e'.η L = e.η L)
    (hb : e.own L c → w'.heap[(e.β L).block]? = w.heap[(e.β L).block]?) (hB : e.own L c → ¬ B (e.β L).block → ¬ B' (e.β L).block) (hc : ConRel w B e h L c) : ConRel w' B' e' h' L c := by
  cases c with
  | none => trivial
  | blk cs =>
    obtain ⟨h1, h2, vs, T, h3, h4, h5⟩ := hc
    exact ⟨by rw [hβ]; exact hB trivial h1, by rw [hβ]; exact h2, vs, T, by rw [hβ, hb trivial]; exact h3, h4, fun j hj => hR _ _ (h5 j hj)⟩
  | arr sz xs =>
    obtain ⟨a, cap, h1, h2, h3, h4⟩ := hc
    refine ⟨a, cap, by rw [hη]; exact h1, h2, h3, ?_⟩
    by_cases h0 : cap = 0
    · exact .inl h0
    have ho : e.own L (.arr sz xs) := ⟨_, _, _, h1, h0⟩
    rcases h4 with h4 | ⟨h5, h6, h7, vs, T, h8, h9, h10⟩
    · exact .inl h4
    · refine .inr ⟨by rw [hβ]; exact h5, by rw [hβ]; exact h6, by rw [hβ]; exact hB ho h7, vs, T, by rw [hβ, hb ho]; exact h8, by rw [hβ]; exact h9, fun i j hi hj => ?_⟩
      rw [hβ]
      exact ⟨hR _ _ (h10 i j hi hj).1, (h10 i j hi hj).2⟩
  | mp es ck =>
    obtain ⟨h1, ents, h3, h4, h5⟩ := hc
    exact ⟨by rw [hβ]; exact hB trivial h1, ents, by rw [hβ, hb trivial]; exact h3, h4, fun j hj => ⟨hR _ _ (h5 j hj).1, hR _ _ (h5 j hj).2.1, (h5 j hj).2.2⟩⟩
  | lp sl n ps asg bd st =>
    obtain ⟨h1, r, h3, h4, h5, h6, h7, h8, h9⟩ := hc
    exact ⟨by rw [hβ]; exact hB trivial h1, r, by rw [hβ, hb trivial]; exact h3, h4, h5, h6, h7, fun i => hR _ _ (h8 i), h9⟩

/-- What no label owns may turn. -/
theorem HRel.free {w w' : World} {B : Nat → Prop} {e : Env} {h : Hp} (hh : HRel w B e h) (hs : w.heap.size ≤ w'.heap.size) (hw : ∀ b, (B b ∨ ∃ L, e.has h L ∧ (e.β L).block = b) → w'.heap[b]? = w.heap[b]?) : HRel w' B e h := by
  refine ⟨fun L hk => ?_, hh.inj, fun b hb => Nat.lt_of_lt_of_le (hh.bnd b hb) hs⟩
  exact ConRel.move (fun a v hR => hR.mono (fun b hb => hw b (.inl hb)) (fun _ h => h) (fun _ _ h => h)) rfl rfl (fun ho => hw _ (.inr ⟨L, own_has hk ho, rfl⟩)) (fun _ h => h) (hh.con L hk)

theorem Ext.push {w : World} {B : Nat → Prop} {e : Env} {h : Hp} (o : Obj) : Ext w B e h (w.alloc o) B e h where
  size := by simp
  os := rfl
  tape := rfl
  output := rfl
  bsub _ h := h
  bnew _ h := .inl h
  keep b hb _ := by
    show (w.heap.push o)[b]? = _
    rw [Array.getElem?_push, if_neg (by omega)]
  onew L hL := .inl ⟨L, hL, rfl⟩
  cnt _ _ := Nat.le_refl _
  env _ _ := ⟨rfl, rfl⟩
  live _ _ h := h
theorem HRel.push {w : World} {B : Nat → Prop} {e : Env} {h : Hp} (hh : HRel w B e h) (o : Obj) : HRel (w.alloc o) B e h := by
  refine hh.free (by simp) (fun b hb => ?_)
  have hlt : b < w.heap.size := by
    rcases hb with hb | ⟨L, hL, rfl⟩
    · exact hh.bnd b hb
    · exact (hh.lt hL).1
  show (w.heap.push o)[b]? = _
  rw [Array.getElem?_push, if_neg (by omega)]

theorem set_none_at {h : Hp} {L : Lab} (M : Lab) : (h.set L .none).con M = if M = L then .none else h.con M := by
  simp only [Hp.set]
  split
  · cases h.con L <;> rfl
  · rfl
theorem dropc {h : Hp} {L : Lab} (M : Lab) : (h.set L .none).con M = .none ∨ (h.set L .none).con M = h.con M := by
  rw [set_none_at]
  by_cases hE : M = L
  · rw [if_pos hE]; exact .inl rfl
  · rw [if_neg hE]; exact .inr rfl
theorem has_drop {e : Env} {h : Hp} {L M : Lab} (hM : e.has (h.set L .none) M) : M ≠ L ∧ e.has h M := by
  obtain ⟨hk, hm⟩ := hM
  have hne : M ≠ L := fun hE => by
    rw [set_none_at, if_pos hE] at hm; exact hm
  refine ⟨hne, hk, ?_⟩
  rw [set_none_at, if_neg hne] at hm
  exact hm

/-- A label is let go, and its block turned. -/
theorem putDrop {w : World} {B : Nat → Prop} {e : Env} {h : Hp} (hh : HRel w B e h) {L : Lab} (hL : e.has h L) (o : Obj) :
    HRel (w.putObj (e.β L).block o) B e (h.set L .none) ∧ Ext w B e h (w.putObj (e.β L).block o) B e (h.set L .none) := by
  have hd := HRel.drop hh (fun M => dropc M) (rfl : (h.set L .none).cnt = h.cnt)
  have hne : ∀ b, (B b ∨ ∃ M, e.has (h.set L .none) M ∧ (e.β M).block = b) → b ≠ (e.β L).block := by
    rintro b (hb | ⟨M, hM, rfl⟩) hE
    · exact (hh.lt hL).2 (hE ▸ hb)
    · obtain ⟨h1, h2⟩ := has_drop hM
      exact h1 (hh.inj M L h2 hL hE)
  refine ⟨hd.free (by simp) (fun b hb => World.putObj_heap_other (hne b hb)), ?_⟩
  exact
    { size := by simp
      os := rfl
      tape := rfl
      output := rfl
      bsub := fun _ h => h
      bnew := fun _ h => .inl h
      keep := fun b _ ho => World.putObj_heap_other (fun hE => ho L hL hE.symm)
      onew := fun M hM => .inl ⟨M, (has_drop hM).2, rfl⟩
      cnt := fun _ _ => Nat.le_refl _
      env := fun _ _ => ⟨rfl, rfl⟩
      live := fun M _ hl => by
        rcases dropc (h := h) (L := L) M with h1 | h1
        · rw [h1] at hl; exact hl.elim
        · rwa [h1] at hl }

/-- A label is taken up again. -/
def Hp.back (h : Hp) (L : Lab) (c : Con) : Hp := if hk : L.k < h.cnt L.f L.s then
    ⟨fun M => if M = L then c else h.con M, h.cnt, fun M hM => by
      by_cases hE : M = L
      · subst hE; omega
      · rw [if_neg hE]; exact h.ok M hM⟩
  else h
theorem back_con {h : Hp} {L : Lab} {c : Con} (hk : L.k < h.cnt L.f L.s) (M : Lab) : (h.back L c).con M = if M = L then c else h.con M := by
  unfold Hp.back; rw [dif_pos hk]
theorem back_cnt {h : Hp} {L : Lab} {c : Con} : (h.back L c).cnt = h.cnt := by
  unfold Hp.back; split <;> rfl

/-- Marks among the deferred calls: each of a block that no label owns, in which nothing lies. -/
def DefOK (N : Nat) (w : World) (B : Nat → Prop) (e : Env) (h : Hp) (ds : List Deferred) : Prop :=
  ∃ Ds : List Nat, ds = Ds.map (fun D => { target := .collected D, args := #[] }) ∧ Ds.Nodup ∧ ∀ D ∈ Ds, N ≤ D ∧ ¬ B D ∧ D < w.heap.size ∧ w.heap[D]? = some (.deferred (some [])) ∧ ∀ L, e.has h L → (e.β L).block ≠ D
theorem DefOK.nil (N : Nat) (w : World) (B : Nat → Prop) (e : Env) (h : Hp) : DefOK N w B e h [] := ⟨[], rfl, List.nodup_nil, fun D hD => by simp at hD⟩
theorem notB_ext {w w' : World} {B B' : Nat → Prop} {e e' : Env} {h h' : Hp} (x : Ext w B e h w' B' e' h') {D : Nat} (g1 : D < w.heap.size) (g3 : ∀ L, e.has h L → (e.β L).block ≠ D) (g2 : ¬ B D) : ¬ B' D := by
  intro hb
  rcases x.bnew D hb with h1 | ⟨L, h1, h2⟩ | h1
  · exact g2 h1
  · exact g3 L h1 h2
  · omega
theorem DefOK.ext {w w' : World} {B B' : Nat → Prop} {e e' : Env} {h h' : Hp} {N : Nat} {ds : List Deferred} (x : Ext w B e h w' B' e' h') (d : DefOK N w B e h ds) : DefOK N w' B' e' h' ds := by
  obtain ⟨Ds, h1, h2, h3⟩ := d
  refine ⟨Ds, h1, h2, fun D hD => ?_⟩
  obtain ⟨g0, gb, g1, g2, g3⟩ := h3 D hD
  refine ⟨g0, notB_ext x g1 g3 gb, Nat.lt_of_lt_of_le g1 x.size, by rw [x.keep D g1 g3]; exact g2, fun L hL hE => ?_⟩
  rcases x.onew L hL with ⟨M, k1, k2⟩ | k1
  · exact g3 M k1 (k2.trans hE)
  · omega
theorem unowned_ext {w w' : World} {B B' : Nat → Prop} {e e' : Env} {h h' : Hp} (x : Ext w B e h w' B' e' h') {D : Nat} (g1 : D < w.heap.size) (g3 : ∀ L, e.has h L → (e.β L).block ≠ D) : D < w'.heap.size ∧ w'.heap[D]? = w.heap[D]? ∧ ∀ L, e'.has h' L → (e'.β L).block ≠ D := by
  refine ⟨Nat.lt_of_lt_of_le g1 x.size, x.keep D g1 g3, fun L hL hE => ?_⟩
  rcases x.onew L hL with ⟨M, k1, k2⟩ | k1
  · exact g3 M k1 (k2.trans hE)
  · omega
end Go.T
/- Soundness, seventeenth part: code; functions. -/
namespace Go.T
open Go

/-- What is asked of a region: guards stand ahead; slots are there; where the order is drawn, whatever order comes to the same (drawOK). -/
def guardsOK : Nat → List Oper → Bool
  | _, [] => true
  | k, o :: r => (match o.guard with | some (j, _) => decide (j < k) | none => true) && guardsOK (k + 1) r
def dstsOK (n : Nat) (ops : List Oper) : Bool := ops.all fun o => match o.dst with | some d => decide (d < n) | none => true
def okCode (n : Nat) (T : Nat → List Tg) : Code → Bool
  | .region id ops dr => guardsOK 0 ops.toList && dstsOK n ops.toList && (!dr || drawOK ops.toList (T id))
  | .seq a b => okCode n T a && okCode n T b
  | .cond _ a b => okCode n T a && okCode n T b
  | .block _ c => okCode n T c
  | .loop c => okCode n T c
  | .scope c => okCode n T c
  | .rangeFunc _ ps a c => ps.toList.all (fun t => decide (t < n)) && okCode n T a && okCode n T c
  | _ => true

theorem guardsOK_mem : ∀ (ops : List Oper) (k : Nat), guardsOK k ops = true → ∀ i o j b, ops[i]? = some o → o.guard = some (j, b) → j < k + i := by
  intro ops
  induction ops with
  | nil => intro k _ i o j b h; simp at h
  | cons o ops ih =>
    intro k hk i o' j b h1 h2
    simp only [guardsOK, Bool.and_eq_true] at hk
    cases i with
    | zero =>
      simp only [List.getElem?_cons_zero, Option.some.injEq] at h1
      subst h1
      rw [h2] at hk
      simpa using hk.1
    | succ i =>
      have := ih (k + 1) hk.2 i o' j b (by simpa using h1) h2
      omega

theorem dstsOK_mem {n : Nat} {ops : List Oper} (h : dstsOK n ops = true) : ∀ o ∈ ops, ∀ x, o.dst = some x → x < n := by
  intro o ho x hx
  have := List.all_eq_true.1 h o ho
  rw [hx] at this
  simpa using this

section
variable {P : Program} {w0 : World} {B0 : Nat → Prop} {e0 : Env} {h0 : Hp} {n : Nat} {ds : List Deferred}

theorem stepR_scope {b : Frame} {a : Act} {k : List Item} {cs : List Frame} {w : World} {c : Code} : step P (lone (b.atR a (.code (.scope c) :: k)) cs w) = .next (lone (b.atR a (.code c :: .inScope c :: k)) cs w) :=
  step_lone_go (by simp [stepG, stepG.exec, Frame.atR])
theorem stepR_inScope {b : Frame} {a : Act} {k : List Item} {cs : List Frame} {w : World} {c : Code} : step P (lone (b.atR a (.inScope c :: k)) cs w) = .next (lone (b.atR a k) cs w) :=
  step_lone_go (by simp [stepG, stepG.exec, Frame.atR])
theorem wpIn_scope_straight {F : Fence} {m : Nat} {c : Code} {a : Act} {w : World} {Q : Exit → Act → World → Prop} (hq0 : ∀ l a w, ¬ Q (.goto l) a w) (h : c.wpIn F m P Q a w) : (Code.scope c).wpIn F m P Q a w := by
  intro b k cs hro hb hr
  have h0 : (lone (b.atR a (.code (.scope c) :: k)) cs w).fenced P F := fenced_calm hb hr rfl
  obtain ⟨e, a₁, w₁, hq, harr⟩ := h b (.inScope c :: k) cs hro hb hr
  cases e with
  | normal => exact ⟨.normal, a₁, w₁, hq, .head h0 stepR_scope (StepsIn.trans harr (.one (fenced_calm hb hr rfl) stepR_inScope))⟩
  | exit id =>
    have hx : exitTo id (.inScope c :: k) = exitTo id k := by simp [exitTo]
    exact ⟨.exit id, a₁, w₁, hq, fun k' hk => .head h0 stepR_scope (harr.1 k' (by rw [hx]; exact hk)),
      fun hr' hk => let ⟨k₁, h1, h2⟩ := harr.2 hr' (by rw [hx]; exact hk); ⟨k₁, h1, .head h0 stepR_scope h2⟩⟩
  | goto l => exact absurd hq (hq0 l a₁ w₁)
  | ret => exact ⟨_, a₁, w₁, hq, .of_steps (.one h0 stepR_scope) harr⟩
  | panic ch => exact ⟨_, a₁, w₁, hq, .of_steps (.one h0 stepR_scope) harr⟩
  | outgrown => exact ⟨_, a₁, w₁, hq, .of_steps (.one h0 stepR_scope) harr⟩

/-- The machine's side of an abstract postcondition, at code: marks among the deferred calls. -/
def Nd (N : Nat) (w0 : World) (B0 : Nat → Prop) (e0 : Env) (h0 : Hp) (n : Nat) (K : St → Prop) (a : Act) (w : World) : Prop :=
  ∃ st B e, K st ∧ Rel w B e n st a ∧ Ext w0 B0 e0 h0 w B e st.hp ∧ DefOK N w B e st.hp a.defers
def Qd (N : Nat) (w0 : World) (B0 : Nat → Prop) (e0 : Env) (h0 : Hp) (n : Nat) (Q : Ex → St → Prop) (e : Exit) (a : Act) (w : World) : Prop :=
  ∃ x, toEx e = some x ∧ Nd N w0 B0 e0 h0 n (Q x) a w

set_option maxHeartbeats 2000000 in
theorem awp_sound (hm : P.follows .mixedOrders = true) (fid : Nat) (hntm : ntm P fid = n) (T : Nat → List Tg) (r : Option Nat) (N : Nat) (hN : N ≤ w0.heap.size) (hro : ∀ l0, r = some l0 → ∃ r0 : Loop, w0.heap[l0]? = some (.loop r0) ∧ l0 < w0.heap.size ∧ ∀ L, e0.has h0 L → (e0.β L).block ≠ l0) : ∀ (c : Code) (Q : Ex → St → Prop) (st : St) (a : Act) (w : World) (B : Nat → Prop) (e : Env) (m : Nat), okCode n T c = true →
    Rel w B e n st a → Ext w0 B0 e0 h0 w B e st.hp → DefOK N w B e st.hp a.defers → awp P fid T c Q st → c.wpIn (wr r) m P (Qd N w0 B0 e0 h0 n Q) a w := by
  intro c
  induction c with
  | skip =>
    intro Q st a w B e m _ hr hx hds h
    simp only [awp] at h
    exact wpIn_skip ⟨.normal, rfl, st, B, e, h, hr, hx, hds⟩
  | region id ops dr =>
    intro Q st a w B e m hok hr hx hds h
    simp only [okCode, Bool.and_eq_true, Bool.or_eq_true, Bool.not_eq_true'] at hok
    obtain ⟨⟨h1, h2⟩, h3⟩ := hok
    simp only [awp] at h
    have he := opsK_eq (P := P) (fid := fid) (K := Q .normal) (tagAt (T id)) ops.toList [] (T id) st (fun i => by simp) (fun i o j b q1 q2 => by have := guardsOK_mem _ _ h1 i o j b q1 q2; simpa using this)
    simp only [List.map_nil, List.nil_append, List.length_nil] at he
    rw [he] at h
    have h' : runL P fid ops.toList (tagAt (T id)) (List.range ops.size) st (Q .normal) := by rw [List.range_eq_range']; simpa using h
    have fin : ∀ ex a' w', Qm w B e st.hp n a.defers Q ex a' w' → Qd N w0 B0 e0 h0 n Q ex a' w' := by
      rintro ex a' w' ⟨x', hx', st', B', e', g1, g2, g3, g4⟩
      exact ⟨x', hx', st', B', e', g1, g2, hx.trans g3, by rw [g4]; exact hds.ext g3⟩
    cases dr with
    | false => exact wpIn_mono (wpIn_region (runL_sound (Q := Q) (w0 := w) (B0 := B) (e0 := e) (h0 := st.hp) (ds := a.defers) ops (dstsOK_mem h2) r m _ st a w B e hr (Ext.refl _ _ _ _) rfl h')) fin
    | true =>
      have h4 : drawOK ops.toList (T id) = true := by simpa using h3
      exact wpIn_mono (region_draw (w0 := w) (B0 := B) (e0 := e) (h0 := st.hp) (ds := a.defers) hm id ops (dstsOK_mem h2) (T id) h4 r m hr (Ext.refl _ _ _ _) rfl h') fin
  | seq x y ihx ihy =>
    intro Q st a w B e m hok hr hx hds h
    simp only [okCode, Bool.and_eq_true] at hok
    simp only [awp] at h
    refine wpIn_seq (wpIn_mono (ihx _ st a w B e m hok.1 hr hx hds h) ?_)
    rintro ex a' w' ⟨x', hx', hn⟩
    cases ex with
    | normal =>
      simp only [toEx, Option.some.injEq] at hx'
      subst hx'
      obtain ⟨st', B', e', g1, g2, g3, g4⟩ := hn
      exact ihy Q st' a' w' B' e' m hok.2 g2 g3 g4 g1
    | exit id => simp only [toEx, Option.some.injEq] at hx'; subst hx'; exact ⟨_, rfl, hn⟩
    | ret => simp only [toEx, Option.some.injEq] at hx'; subst hx'; exact ⟨_, rfl, hn⟩
    | goto l => simp [toEx] at hx'
    | panic ch => simp [toEx] at hx'
    | outgrown => simp [toEx] at hx'
  | cond c x y ihx ihy =>
    intro Q st a w B e m hok hr hx hds h
    simp only [okCode, Bool.and_eq_true] at hok
    simp only [awp] at h
    unfold condK at h
    split at h
    · rename_i t hc
      have h1 := ev_R hr c
      rw [hc] at h1
      have h1 := R_bool h1
      exact wpIn_cond_split h1 (fun ht => ihx Q st a w B e m hok.1 hr hx hds (h.1 ht)) (fun ht => ihy Q st a w B e m hok.2 hr hx hds (h.2 ht))
    · exact h.elim
  | block id c ih =>
    intro Q st a w B e m hok hr hx hds h
    simp only [okCode] at hok
    simp only [awp] at h
    refine wpIn_block (wpIn_mono (ih _ st a w B e m hok hr hx hds h) ?_)
    rintro ex a' w' ⟨x', hx', hn⟩
    cases ex with
    | normal => simp only [toEx, Option.some.injEq] at hx'; subst hx'; exact ⟨_, rfl, hn⟩
    | exit id' =>
      simp only [toEx, Option.some.injEq] at hx'; subst hx'
      show if id' = id then Qd N w0 B0 e0 h0 n Q .normal a' w' else Qd N w0 B0 e0 h0 n Q (.exit id') a' w'
      have hbq : blockQ id Q (.exit id') = fun s => if id' = id then Q .normal s else Q (.exit id') s := by funext s; simp [blockQ]
      rw [hbq] at hn
      split
      · rename_i hid
        simp only [hid, if_true] at hn
        exact ⟨.normal, rfl, hn⟩
      · rename_i hid
        simp only [hid, if_false] at hn
        exact ⟨.exit id', rfl, hn⟩
    | ret => simp only [toEx, Option.some.injEq] at hx'; subst hx'; exact ⟨_, rfl, hn⟩
    | goto l => simp [toEx] at hx'
    | panic ch => simp [toEx] at hx'
    | outgrown => simp [toEx] at hx'
  | loop c ih =>
    intro Q st a w B e m hok hr hx hds h
    simp only [okCode] at hok
    simp only [awp] at h
    obtain ⟨I, μ, h1, h2⟩ := h
    let J : Nat → Act → World → Prop := fun j a w => ∃ st B e, I st ∧ μ st = j ∧ Rel w B e n st a ∧ Ext w0 B0 e0 h0 w B e st.hp ∧ DefOK N w B e st.hp a.defers
    have hex : ∀ a w, (∃ j, J j a w) → ∃ j, J j a w ∧ ∀ i, i < j → ¬ J i a w := by
      intro a w ⟨j, hj⟩
      induction j using Nat.strongRecOn with
      | _ j ihj =>
        by_cases hi : ∃ i, i < j ∧ J i a w
        · obtain ⟨i, h1, h2⟩ := hi; exact ihj i h1 h2
        · exact ⟨j, hj, fun i h1 h2 => hi ⟨i, h1, h2⟩⟩
    let M : Act → World → Nat := fun a w => (Classical.epsilon fun j => J j a w ∧ ∀ i, i < j → ¬ J i a w)
    have hM : ∀ a w, (∃ j, J j a w) → J (M a w) a w ∧ ∀ i, i < M a w → ¬ J i a w := fun a w h => Classical.epsilon_spec (hex a w h)
    refine wpIn_loop (fun a w => ∃ j, J j a w) M ⟨μ st, st, B, e, h1, rfl, hr, hx, hds⟩ ?_
    intro a₁ w₁ hJ
    obtain ⟨⟨st₁, B₁, e₁, g1, g2, g3, g4, g5⟩, _⟩ := hM a₁ w₁ hJ
    refine wpIn_mono (ih _ st₁ a₁ w₁ B₁ e₁ m hok g3 g4 g5 (h2 st₁ g1)) ?_
    rintro ex a' w' ⟨x', hx', hn⟩
    cases ex with
    | normal =>
      simp only [toEx, Option.some.injEq] at hx'
      subst hx'
      obtain ⟨st', B', e', ⟨q1, q2⟩, q3, q4, q5⟩ := hn
      have hJ' : J (μ st') a' w' := ⟨st', B', e', q1, rfl, q3, q4, q5⟩
      refine ⟨⟨_, hJ'⟩, ?_⟩
      have hmin := (hM a' w' ⟨_, hJ'⟩).2
      have : M a' w' ≤ μ st' := by
        rcases Nat.lt_or_ge (μ st') (M a' w') with h | h
        · exact absurd hJ' (hmin _ h)
        · exact h
      rw [g2] at q2
      omega
    | exit id => simp only [toEx, Option.some.injEq] at hx'; subst hx'; exact ⟨_, rfl, hn⟩
    | ret => simp only [toEx, Option.some.injEq] at hx'; subst hx'; exact ⟨_, rfl, hn⟩
    | goto l => simp [toEx] at hx'
    | panic ch => simp [toEx] at hx'
    | outgrown => simp [toEx] at hx'
  | exit id =>
    intro Q st a w B e m _ hr hx hds h
    simp only [awp] at h
    exact wpIn_exit ⟨_, rfl, st, B, e, h, hr, hx, hds⟩
  | label l =>
    intro Q st a w B e m _ hr hx hds h
    simp only [awp] at h
    exact wpIn_label ⟨.normal, rfl, st, B, e, h, hr, hx, hds⟩
  | scope c ih =>
    intro Q st a w B e m hok hr hx hds h
    simp only [okCode] at hok
    simp only [awp] at h
    exact wpIn_scope_straight (fun l a w hq => by obtain ⟨x, hx, _⟩ := hq; simp [toEx] at hx) (ih Q st a w B e m hok hr hx hds h)
  | ret =>
    intro Q st a w B e m _ hr hx hds h
    simp only [awp] at h
    exact wpIn_ret ⟨.ret, rfl, st, B, e, h, hr, hx, hds⟩
  | goto l => intro Q st a w B e m _ _ _ _ h; simp [awp] at h
  | rangeFunc g ps asg body _ _ =>
    intro Q st a w B e m hok hr hx hds h
    simp only [awp] at h
    unfold rangeK at h
    split at h
    · rename_i gf caps hg
      obtain ⟨hb, hcall⟩ := h
      have h1 := ev_R hr g
      rw [hg] at h1
      obtain ⟨vs, h2, h3, h4⟩ := R_fn h1
      refine wpIn_rangeFunc ?_
      intro fn _
      -- the record is laid
      obtain ⟨l, mark, W1, rec, q1, q2, q3, q4, q5, q6, q7, q8, q9, q10, q11, q12⟩ : ∃ (l : Nat) (mark : List Deferred) (W0 : World) (rec : Loop), (Instr.enterLoop fn a.tmps ps asg body (wr r).round).run P w = .ok (l, mark) (W0.alloc (.loop rec)) ∧ W0.heap.size = l ∧
          HRel W0 B e st.hp ∧ Ext w B e st.hp W0 B e st.hp ∧ rec.state = .ready ∧ rec.pending = none ∧ rec.params = ps ∧ rec.assign = asg ∧ rec.body = body ∧ rec.tmps = a.tmps ∧ DefOK N W0 B e st.hp (mark ++ a.defers) ∧ True := by
        cases r with
        | none =>
          refine ⟨w.heap.size + 1, _, w.alloc (.deferred (some [])), _, run_enterLoop_outer _ _ _ _ _, by simp, hr.hp.push _, Ext.push _, rfl, rfl, rfl, rfl, rfl, rfl, ?_, trivial⟩
          obtain ⟨Ds, k1, k2, k3⟩ := hds.ext (Ext.push (w := w) (B := B) (e := e) (h := st.hp) (.deferred (some [])))
          obtain ⟨Ds', k1', _, k3'⟩ := hds
          have hinj : Ds' = Ds := by
            have := k1'.symm.trans k1
            exact (List.map_inj_right (fun x y hxy => by injection hxy with h1 _; injection h1)).1 this
          subst hinj
          refine ⟨w.heap.size :: Ds', by rw [k1]; rfl, List.nodup_cons.2 ⟨fun hin => ?_, k2⟩, fun D hD => ?_⟩
          · have := (k3' _ hin).2.2.1; omega
          · rcases List.mem_cons.1 hD with rfl | hD
            · refine ⟨Nat.le_trans hN hx.size, fun hbb => by have := hr.hp.bnd _ hbb; omega, by simp, World.alloc_heap_new _ _, fun L hL hE => ?_⟩
              have := (hr.hp.lt hL).1
              omega
            · exact k3 D hD
        | some l0 =>
          obtain ⟨r0, z1, z2, z3⟩ := hro l0 rfl
          obtain ⟨z4, z5, z6⟩ := unowned_ext hx z2 z3
          exact ⟨w.heap.size, [], w, _, run_enterLoop_inner (z5.trans z1) _ _ _ _ _, rfl, hr.hp, Ext.refl _ _ _ _, rfl, rfl, rfl, rfl, rfl, rfl, hds, trivial⟩
      subst q2
      have hrunb : ∀ w', (invoke (.fn (.func gf) vs) #[.func (.yield W1.heap.size) #[] #[]]).run P w' = .ok (.enter gf (#[.func (.yield W1.heap.size) #[] #[]] ++ vs)) w' := by
        intro w'
        unfold hasBody at hb
        split at hb
        · rename_i fn' hfn
          simp only [Bool.and_eq_true, bne_iff_ne, ne_eq] at hb
          obtain ⟨bd, hbd⟩ := Option.isSome_iff_exists.1 hb.1
          simp [invoke, callFunc, hfn, hb.2, hbd]
        · cases hb
      let W2 := W1.alloc (.loop rec)
      let L := st.hp.fresh fid lpSlot
      let c1 : Con := .lp st.slots (ntm P fid) ps.toList asg body .ready
      let e1 := e.upd L ⟨W1.heap.size, 0, .none⟩ undef
      have xa : Ext W1 B e st.hp W2 B e1 (st.hp.alloc fid lpSlot c1) := Ext.alloc fid lpSlot c1 (.loop rec) ⟨W1.heap.size, 0, .none⟩ undef W2 rfl rfl rfl rfl (fun _ h => h) (fun _ h => .inl h) rfl
      have hβ : (e1.β L).block = W1.heap.size := by simp [e1, Env.upd]
      have ha : HRel W2 B e1 (st.hp.alloc fid lpSlot c1) := HRel.alloc q3 fid lpSlot c1 (.loop rec) ⟨W1.heap.size, 0, .none⟩ undef W2 rfl rfl rfl rfl (fun _ h => h) (fun _ h => .inl h) rfl (by
        refine ⟨?_, rec, ?_, by rw [q7], q8, q9, by rw [q10, hr.size, hntm], fun i => ?_, q5, q6⟩
        · show ¬ B (e1.β L).block
          rw [hβ]; intro hbb
          have := q3.bnd _ hbb; omega
        · show W2.heap[(e1.β L).block]? = _
          rw [hβ]; exact World.alloc_heap_new _ _
        · rw [q10]; exact ((hr.slots i).ext hr.hp q4).ext q3 xa)
      have hLk : L.k < (st.hp.alloc fid lpSlot c1).cnt L.f L.s := by simp [L, Hp.fresh, Hp.alloc]
      have hyl : R W2 B (e1.E (st.hp.alloc fid lpSlot c1)) (.yl L) (.func (.yield W1.heap.size) #[] #[]) := .ref _ _ ⟨hLk, by rw [hβ]⟩
      refine ⟨W1.heap.size, mark, W2, { target := .fn (.func gf) vs, args := #[.func (.yield W1.heap.size) #[] #[]] }, W2, gf, #[.func (.yield W1.heap.size) #[] #[]] ++ vs, W2, q1, ?_, fun _ _ => trivial, hrunb W2, fun hh => by simp [wr, Fence.wide] at hh, ?_⟩
      · simp only [resolve, h2]
        simp [go_sem]
        trace_state
      · have hargs : ∀ i, i < (AV.yl (st.hp.fresh fid lpSlot) :: caps).length → R W2 B (e1.E (st.hp.alloc fid lpSlot c1)) ((AV.yl (st.hp.fresh fid lpSlot) :: caps).getD i .un) ((#[Value.func (.yield W1.heap.size) #[] #[]] ++ vs).getD i undef) := by
          intro i hi
          cases i with
          | zero =>
            have e0' : (#[Value.func (.yield W1.heap.size) #[] #[]] ++ vs).getD 0 undef = Value.func (.yield W1.heap.size) #[] #[] := by
              simp only [Array.getD_eq_getD_getElem?]
              rw [Array.getElem?_append_left (by simp)]
              simp
            rw [e0']; exact hyl
          | succ i =>
            have hj : i < caps.length := by simpa using hi
            have e1' : (AV.yl (st.hp.fresh fid lpSlot) :: caps).getD (i + 1) .un = caps.getD i .undef := by
              simp [hj]
            have e2' : (#[Value.func (.yield W1.heap.size) #[] #[]] ++ vs).getD (i + 1) undef = vs.getD i undef := by
              have : i < vs.size := by omega
              simp only [Array.getD_eq_getD_getElem?]
              rw [Array.getElem?_append_right (by simp)]
              simp
            rw [e1', e2']
            exact ((h4 i hj).ext hr.hp q4).ext q3 xa
        have hsz : (#[Value.func (.yield W1.heap.size) #[] #[]] ++ vs).size = (AV.yl (st.hp.fresh fid lpSlot) :: caps).length := by simp [h3]; omega
        have hcc := hcall W2 B e1 _ ha hsz hargs
        refine calls_in r _ (Calls.mono hcc fun en w3 hR => ?_)
        obtain ⟨v, rr, h', B', e', rfl, g2, g3, g4, g5⟩ := hR
        have hLk' : L.k < h'.cnt L.f L.s := Nat.lt_of_lt_of_le hLk (g3.cnt _ _)
        have hβ' : (e'.β L).block = W1.heap.size := by rw [(g3.env L hLk).1]; exact hβ
        have xw : Ext w B e st.hp w3 B' e' h' := (q4.trans xa).trans g3
        have hdx : DefOK N w3 B' e' h' (mark ++ a.defers) := q11.ext (xa.trans g3)
        have hs3 : ∀ i, R w3 B' (e'.E h') (st.slots i) (a.tmps.getD i undef) := fun i => (hr.slots i).ext hr.hp xw
        have hcon := g2.con L hLk'
        unfold endLpC at g5
        have hend : ∀ (x : Ex) (jump : Option Code) (rec' : Loop), e'.has h' L → w3.heap[W1.heap.size]? = some (.loop rec') → rec'.state ≠ .busy → rec'.pending = jump → Q x ⟨st.slots, h'.set L .none⟩ →
            (match x with | .normal => jump = none | x => jump = some (exC x)) → rangePost (wr r) m P W1.heap.size (Qd N w0 B0 e0 h0 n Q) { a with defers := mark ++ a.defers } (.returned v) w3 := by
          intro x jump rec' hL hrow hst hpend hQ hx'
          refine ⟨jump, _, by rw [← hpend]; exact run_endLoop hrow hst, ?_⟩
          obtain ⟨p1, p2⟩ := putDrop g2 hL (.loop { rec' with state := .exhausted })
          rw [hβ'] at p1 p2
          have hrel : Rel (w3.putObj W1.heap.size (.loop { rec' with state := .exhausted })) B' e' n ⟨st.slots, h'.set L .none⟩ { a with defers := mark ++ a.defers } :=
            ⟨p1, fun i => (hs3 i).ext g2 p2, hr.size⟩
          have hnd : ∀ x', toEx x' = some x → Qd N w0 B0 e0 h0 n Q x' { a with defers := mark ++ a.defers } (w3.putObj W1.heap.size (.loop { rec' with state := .exhausted })) := fun x' hx'' =>
            ⟨x, hx'', ⟨st.slots, h'.set L .none⟩, B', e', hQ, hrel, (hx.trans xw).trans p2, hdx.ext p2⟩
          cases x with
          | normal => simp only at hx'; subst hx'; exact hnd .normal rfl
          | exit id => simp only at hx'; subst hx'; exact wpIn_exit (hnd (.exit id) rfl)
          | ret => simp only at hx'; subst hx'; exact wpIn_ret (hnd .ret rfl)
        split at g5
        · rename_i sl' n' ps' aas' bd' hcc
          rw [show h'.con L = _ from hcc] at hcon
          obtain ⟨_, rec', k1, _, _, _, _, _, k2, k3⟩ := hcon
          rw [hβ'] at k1
          exact hend .normal none rec' ⟨hLk', by rw [show h'.con L = _ from hcc]; trivial⟩ k1 (by rw [k2]; simp) k3 g5 rfl
        · rename_i sl' n' ps' aas' bd' id hcc
          rw [show h'.con L = _ from hcc] at hcon
          obtain ⟨_, rec', k1, _, _, _, _, _, k2, k3⟩ := hcon
          rw [hβ'] at k1
          exact hend (.exit id) (some (exC (.exit id))) rec' ⟨hLk', by rw [show h'.con L = _ from hcc]; trivial⟩ k1 (by rw [k2]; simp) k3 g5 rfl
        · rename_i sl' n' ps' aas' bd' hcc
          rw [show h'.con L = _ from hcc] at hcon
          obtain ⟨_, rec', k1, _, _, _, _, _, k2, k3⟩ := hcon
          rw [hβ'] at k1
          exact hend .ret (some (exC .ret)) rec' ⟨hLk', by rw [show h'.con L = _ from hcc]; trivial⟩ k1 (by rw [k2]; simp) k3 g5 rfl
        · exact g5.elim
    · exact h.elim
  | refuse why => intro Q st a w B e m _ _ _ _ h; simp [awp] at h

theorem resK_sound (tmps : Array Value) {w : World} {B : Nat → Prop} {e : Env} {st : St} (hr : HRel w B e st.hp) (hs : ∀ i, R w B (e.E st.hp) (st.slots i) (tmps.getD i undef)) : ∀ (rs : List ResultVar) (K : List AV → Prop), resK P rs st K →
    ∃ (vs : List Value) (avs : List AV), (rs.mapM (fun | .tmp t => pure (tmps.getD t undef) | .cell a t => do loadVar t (← asAddr (tmps.getD a undef)) : ResultVar → Sem Value)).run P w = .ok vs w ∧ vs.length = avs.length ∧
      (∀ j, j < avs.length → R w B (e.E st.hp) (avs.getD j .undef) (vs.getD j undef)) ∧ K avs := by
  intro rs
  induction rs with
  | nil => intro K h; exact ⟨[], [], by simp, rfl, fun j hj => by simp at hj, h⟩
  | cons x rs ih =>
    intro K h
    cases x with
    | tmp t =>
      simp only [resK] at h
      obtain ⟨vs, avs, h1, h2, h3, h4⟩ := ih _ h
      refine ⟨tmps.getD t undef :: vs, st.slots t :: avs, ?_, by simp [h2], fun j hj => ?_, h4⟩
      · rw [List.mapM_cons, Sem.run_bind]
        simp only [Sem.run_pure, Result.andThen_ok, Sem.run_bind, h1]
      · cases j with
        | zero => simpa using hs t
        | succ j => simpa using h3 j (by simpa using hj)
    | cell a t =>
      simp only [resK] at h
      obtain ⟨ht, h⟩ := h
      obtain ⟨v, av, g1, g2, g3⟩ := loadK_sound (P := P) hr ht (hs a) h
      obtain ⟨vs, avs, h1, h2, h3, h4⟩ := ih _ g3
      have hp : ∃ p, tmps.getD a undef = .pointer (some p) := by
        unfold loadK at h
        split at h
        · rename_i hsl
          have := hs a; rw [hsl] at this
          obtain ⟨b, off, _, hv, _⟩ := R_ip this
          exact ⟨_, hv⟩
        · rename_i hsl
          have := hs a; rw [hsl] at this
          obtain ⟨_, ⟨p, hv⟩, _⟩ := R_pt this
          exact ⟨p, hv⟩
        · exact h.elim
      obtain ⟨p, hp⟩ := hp
      have g1' : (loadVar t p).run P w = .ok v w := by
        rw [hp] at g1
        simpa [Instr.loadAt, Instr.sureAddr] using g1
      refine ⟨v :: vs, av :: avs, ?_, by simp [h2], fun j hj => ?_, h4⟩
      · rw [List.mapM_cons, Sem.run_bind]
        have : (do loadVar t (← asAddr (tmps.getD a undef)) : Sem Value).run P w = .ok v w := by
          rw [hp]; simp [asAddr, g1']
        rw [this]
        simp only [Result.andThen_ok, Sem.run_bind, h1, Sem.run_pure]
      · cases j with
        | zero => simpa using g2
        | succ j => simpa using h3 j (by simpa using hj)

/-- The marks are come to, one by one; then the results. -/
theorem leave_sound {fn : Func} {K : AV → Hp → Prop} {tmps : Array Value} {w0 : World} {B0 : Nat → Prop} {e0 : Env} {h0 : Hp} (m : Nat) {B : Nat → Prop} {e : Env} {st : St}
    (hend : resK P fn.results.toList st (fun vs => ∃ h : Hp, (∀ L, h.con L = .none ∨ h.con L = st.hp.con L) ∧ h.cnt = st.hp.cnt ∧ K (oneOf vs) h)) : ∀ (Ds : List Nat) (w : World), Ds.Nodup → HRel w B e st.hp → (∀ i, R w B (e.E st.hp) (st.slots i) (tmps.getD i undef)) → Ext w0 B0 e0 h0 w B e st.hp →
    (∀ D ∈ Ds, w0.heap.size ≤ D ∧ ¬ B D ∧ D < w.heap.size ∧ w.heap[D]? = some (.deferred (some [])) ∧ ∀ L, e.has st.hp L → (e.β L).block ≠ D) →
    LeavesInM (wr none) m P fn tmps (fun en w' => ∃ v₁ r h' B' e', en = .returned v₁ ∧ HRel w' B' e' h' ∧ Ext w0 B0 e0 h0 w' B' e' h' ∧ R w' B' (e'.E h') r v₁ ∧ K r h') (Ds.map (fun D => { target := .collected D, args := #[] })) .returning w := by
  intro Ds
  induction Ds with
  | nil =>
    intro w _ hh hs hx _
    obtain ⟨vs', avs, q1, q2, q3, h', q4, q6, q5⟩ := resK_sound tmps hh hs _ _ hend
    have hxd := Ext.drop (w := w) (B := B) (e := e) q4 q6
    refine ⟨if h : vs'.length = 1 then vs'[0] else .tuple vs'.toArray, ?_, _, oneOf avs, h', B, e, rfl, HRel.drop hh q4 q6, hx.trans hxd, ?_, q5⟩
    · have hm : (fn.results.mapM (fun | .tmp t => pure (tmps.getD t undef) | .cell a t => do loadVar t (← asAddr (tmps.getD a undef)) : ResultVar → Sem Value)).run P w = .ok vs'.toArray w := by
        cases hres : fn.results with
        | mk l =>
          rw [hres] at q1
          rw [List.mapM_toArray, Sem.run_map, q1]
          rfl
      unfold results
      rw [Sem.run_bind]
      refine (congrArg (fun r : Result (Array Value) => r.andThen fun a w' => Sem.run P (pure (if h : a.size = 1 then a[0] else Value.tuple a)) w') hm).trans ?_
      simp
    · split
      · rename_i h1
        obtain ⟨v0, rfl⟩ := List.length_eq_one_iff.1 h1
        obtain ⟨av0, rfl⟩ := List.length_eq_one_iff.1 (q2.symm.trans h1)
        have := q3 0 (by simp)
        simp only [List.getD_cons_zero] at this
        exact (by simpa [oneOf] using this : R _ _ _ _ _).ext hh hxd
      · rename_i h1
        have : oneOf avs = .tup avs := by
          match avs, q2 with
          | [], _ => rfl
          | [x], q2 => exact absurd q2 h1
          | x :: y :: r, _ => rfl
        rw [this]
        refine .tup _ _ (by simp [q2]) (fun j hj => ?_)
        have := (q3 j hj).ext hh hxd
        simpa using this
  | cons D Ds ih =>
    intro w hnd hh hs hx hD
    obtain ⟨g0, gb, g1, g2, g3⟩ := hD D (by simp)
    have hnd' := List.nodup_cons.1 hnd
    refine ⟨by simp, .inl ⟨D, w.putObj D (.deferred none), rfl, run_takeDeferred g2, ?_⟩⟩
    have hother : ∀ b, (B b ∨ ∃ L, e.has st.hp L ∧ (e.β L).block = b) → (w.putObj D (.deferred none)).heap[b]? = w.heap[b]? := by
      rintro b (hb | ⟨L, hL, rfl⟩)
      · exact World.putObj_heap_other (fun hE => gb (hE ▸ hb))
      · exact World.putObj_heap_other (g3 L hL)
    refine ih _ hnd'.2 (hh.free (by simp) hother) (fun i => (hs i).mono (fun b hb => hother b (.inl hb)) (fun _ h => h) (fun _ _ h => h)) ?_ (fun D' hD' => ?_)
    · exact ⟨by simpa using hx.size, hx.os, hx.tape, hx.output, hx.bsub, hx.bnew, fun b hb ho => by rw [World.putObj_heap_other (by omega)]; exact hx.keep b hb ho, hx.onew, hx.cnt, hx.env, hx.live⟩
    · obtain ⟨k0, kb, k1, k2, k3⟩ := hD D' (by simp [hD'])
      have hne : D' ≠ D := fun hE => hnd'.1 (hE ▸ hD')
      exact ⟨k0, kb, by simpa using k1, by rw [World.putObj_heap_other hne]; exact k2, k3⟩

/-- **A function's contract out of the abstract run of its body.** -/
theorem CallK.of_awp' (hm : P.follows .mixedOrders = true) (T : Nat → List Tg) {f : FuncId} {fn : Func} {c : Code} {args : List AV} {h : Hp} {K : AV → Hp → Prop} (hf : P.funcs[f]? = some fn) (hb : fn.body = some c) (hok : okCode fn.ntmps T c = true)
    (hl : args.length ≤ fn.ntmps) {Q : Ex → St → Prop} (hQ : ∀ x st, Q x st → endK P fn K x st) (hk : awp P f T c Q (enter args h)) : CallK P f args h K := by
  intro w B e vs hh hs hargs
  refine (callsIn_wide (n := 0)).1 ?_
  refine callsIn_of_wp_marks hf hb trivial ?_ rfl
  have hrel : Rel w B e fn.ntmps (enter args h) { tmps := vs ++ Array.replicate (fn.ntmps - vs.size) undef, defers := [] } := by
    refine ⟨hh, fun i => ?_, by simp; omega⟩
    simp only [enter]
    by_cases hi : i < args.length
    · have e2 : (vs ++ Array.replicate (fn.ntmps - vs.size) undef).getD i undef = vs.getD i undef := by
        simp only [Array.getD_eq_getD_getElem?]
        rw [Array.getElem?_append_left (by omega)]
      rw [e2]
      exact hargs i hi
    · have e1 : args.getD i .un = .un := by rw [List.getD_eq_getElem?_getD, List.getElem?_eq_none (by omega)]; rfl
      have e2 : (vs ++ Array.replicate (fn.ntmps - vs.size) undef).getD i undef = undef := by
        simp only [Array.getD_eq_getD_getElem?]
        rw [Array.getElem?_append_right (by omega)]
        by_cases hi2 : i - vs.size < fn.ntmps - vs.size
        · simp [hi2]
        · simp [hi2]
      rw [e1, e2]; exact .un
  have hntm : ntm P f = fn.ntmps := by unfold ntm; rw [hf]
  have main := awp_sound (w0 := w) (B0 := B) (e0 := e) (h0 := h) (n := fn.ntmps) hm f hntm T none w.heap.size (Nat.le_refl _) (fun l0 hl0 => by simp at hl0) c _ _ _ w B e 0 hok hrel (Ext.refl w B e h) (DefOK.nil _ _ _ _ _) hk
  refine wpIn_mono main ?_
  rintro ex a' w' ⟨x', hx', st', B', e', g1, g2, g3, Ds, d1, d2, d3⟩
  have fin : ∀ x', endK P fn K x' st' → LeavesInM (wr none) 0 P fn a'.tmps (fun en w' => ∃ v₁ r h' B' e', en = .returned v₁ ∧ HRel w' B' e' h' ∧ Ext w B e h w' B' e' h' ∧ R w' B' (e'.E h') r v₁ ∧ K r h') a'.defers .returning w' := by
    intro x' hend
    have hend' : resK P fn.results.toList st' (fun vs => ∃ h : Hp, (∀ L, h.con L = .none ∨ h.con L = st'.hp.con L) ∧ h.cnt = st'.hp.cnt ∧ K (oneOf vs) h) := by
      cases x' with
      | normal => exact hend
      | exit id => exact hend.elim
      | ret => exact hend
    rw [d1]
    exact leave_sound 0 hend' Ds w' d2 g2.hp g2.slots g3 d3
  cases ex with
  | normal =>
    simp only [toEx, Option.some.injEq] at hx'; subst hx'
    exact fin _ (hQ _ _ g1)
  | ret =>
    simp only [toEx, Option.some.injEq] at hx'; subst hx'
    exact fin _ (hQ _ _ g1)
  | exit id =>
    simp only [toEx, Option.some.injEq] at hx'; subst hx'
    exact (hQ _ _ g1).elim
  | goto l => simp [toEx] at hx'
  | panic ch => simp [toEx] at hx'
  | outgrown => simp [toEx] at hx'

theorem resK_mono : ∀ {rs : List ResultVar} {st : St} {K K' : List AV → Prop}, resK P rs st K → (∀ v, K v → K' v) → resK P rs st K' := by
  intro rs
  induction rs with
  | nil => intro st K K' h hk; exact hk _ h
  | cons x rs ih =>
    intro st K K' h hk
    cases x with
    | tmp t => simp only [resK] at h ⊢; exact ih h (fun v hv => hk _ hv)
    | cell a t =>
      simp only [resK] at h ⊢
      obtain ⟨v, h1, h2⟩ := fn_loadK _ h.2
      exact ⟨h.1, h2 _ (ih h1 (fun v hv => hk _ hv))⟩

end

end Go.T
/- Pure functions: the heap behind the call is the heap ahead of it. -/
namespace Go.T
open Go

mutual
/-- No label stands in the value. -/
def AV.lf : AV → Bool
  | .l _ _ xs => AV.lfs xs
  | .ip cs => AV.lfs cs
  | .agg cs => AV.lfs cs
  | .tup cs => AV.lfs cs
  | .fn _ cs => AV.lfs cs
  | .pt _ _ _ _ => false
  | .os _ => false
  | .mr _ => false
  | .yl _ => false
  | _ => true
def AV.lfs : List AV → Bool
  | [] => true
  | x :: xs => AV.lf x && AV.lfs xs
end

theorem lfs_iff : ∀ {xs : List AV}, AV.lfs xs = true ↔ ∀ x ∈ xs, x.lf = true := by
  intro xs
  induction xs with
  | nil => simp [AV.lfs]
  | cons x xs ih => simp [AV.lfs, ih]

theorem lfs_getD {xs : List AV} (h : AV.lfs xs = true) (j : Nat) : (xs.getD j .undef).lf = true := by
  rcases Nat.lt_or_ge j xs.length with hj | hj
  · have : xs.getD j .undef = xs[j] := by simp [hj]
    rw [this]
    exact lfs_iff.1 h _ (List.getElem_mem hj)
  · rw [List.getD_eq_getElem?_getD, List.getElem?_eq_none hj]
    simp [AV.lf]

theorem lf_cells {x : AV} (h : x.lf = true) : AV.lfs x.cells = true := by
  unfold AV.cells
  split
  · simpa [AV.lf] using h
  · simp [AV.lfs, h]

theorem R.lf {w : World} {B : Nat → Prop} {e : Env} {h : Hp} {E' : AV → Value → Prop} {a : AV} {v : Value} (hR : R w B (e.E h) a v) (hl : a.lf = true) : R w B E' a v := by
  induction hR with
  | undef v => exact .undef v
  | un => exact .un
  | int k n => exact .int k n
  | bool b => exact .bool b
  | str s => exact .str s
  | nilp => exact .nilp
  | nilf => exact .nilf
  | nilm => exact .nilm
  | l0 ex sz a c hx => exact .l0 ex sz a c hx
  | l ex sz xs b off cap vs h1 h2 h3 h4 h5 h6 _ h8 ih =>
    simp only [AV.lf] at hl
    exact .l ex sz xs b off cap vs h1 h2 h3 h4 h5 h6 (fun i j hi hj => ih i j hi hj (lfs_getD (lf_cells (lfs_iff.1 hl _ (List.getElem_mem hi))) j)) h8
  | ip cs b off vs h1 h2 _ ih => exact .ip cs b off vs h1 h2 (fun j hj => ih j hj (lfs_getD (by simpa [AV.lf] using hl) j))
  | agg cs vs h1 _ ih => exact .agg cs vs h1 (fun j hj => ih j hj (lfs_getD (by simpa [AV.lf] using hl) j))
  | tup cs vs h1 _ ih => exact .tup cs vs h1 (fun j hj => ih j hj (lfs_getD (by simpa [AV.lf] using hl) j))
  | fn f cs vs h1 _ ih => exact .fn f cs vs h1 (fun j hj => ih j hj (lfs_getD (by simpa [AV.lf] using hl) j))
  | ref a v hr =>
    cases a <;> first | exact hr.elim | (simp [AV.lf] at hl)

/-- What is related ahead and behind stays so for the labels known ahead. -/
theorem R.restore {w w' : World} {B B' : Nat → Prop} {e e' : Env} {h h' h3 : Hp} (hE : ∀ a v1 v2, e.E h a v1 → e'.E h' a v2 → e'.E h3 a v2) {a : AV} {v : Value} (hR : R w B (e.E h) a v) :
    ∀ v2, R w' B' (e'.E h') a v2 → R w' B' (e'.E h3) a v2 := by
  induction hR with
  | undef v => intro v2 _; exact .undef v2
  | un => intro v2 h2; rw [R_un h2]; exact .un
  | int k n => intro v2 h2; rw [R_int h2]; exact .int k n
  | bool b => intro v2 h2; rw [R_bool h2]; exact .bool b
  | str s => intro v2 h2; rw [R_str h2]; exact .str s
  | nilp => intro v2 h2; rw [R_nilp h2]; exact .nilp
  | nilf => intro v2 h2; rw [R_nilf h2]; exact .nilf
  | nilm =>
    intro v2 h2
    cases h2 with
    | nilm => exact .nilm
    | ref _ _ hr => exact hr.elim
  | l0 ex sz a c hx =>
    intro v2 h2
    cases h2 with
    | l0 _ _ a' c' hx' => exact .l0 ex sz a' c' hx'
    | l _ _ _ b off cap vs h1 => exact absurd rfl h1
    | ref _ _ hr => exact hr.elim
  | l ex sz xs b off cap vs h1 h2 h3 h4 h5 h6 _ h8 ih =>
    intro v2 g
    cases g with
    | l0 _ _ a' c' hx' => exact absurd rfl h1
    | l _ _ _ b' off' cap' vs' g1 g2 g3 g4 g5 g6 g7 g8 => exact .l ex sz xs b' off' cap' vs' g1 g2 g3 g4 g5 g6 (fun i j hi hj => ih i j hi hj _ (g7 i j hi hj)) g8
    | ref _ _ hr => exact hr.elim
  | ip cs b off vs h1 h2 _ ih =>
    intro v2 g
    cases g with
    | ip _ b' off' vs' g1 g2 g3 => exact .ip cs b' off' vs' g1 g2 (fun j hj => ih j hj _ (g3 j hj))
    | ref _ _ hr => exact hr.elim
  | agg cs vs h1 _ ih =>
    intro v2 g
    obtain ⟨vs', rfl, g1, g2⟩ := R_agg g
    exact .agg cs vs' g1 (fun j hj => ih j hj _ (g2 j hj))
  | tup cs vs h1 _ ih =>
    intro v2 g
    obtain ⟨vs', rfl, g1, g2⟩ := R_tup g
    exact .tup cs vs' g1 (fun j hj => ih j hj _ (g2 j hj))
  | fn f cs vs h1 _ ih =>
    intro v2 g
    obtain ⟨vs', rfl, g1, g2⟩ := R_fn g
    exact .fn f cs vs' g1 (fun j hj => ih j hj _ (g2 j hj))
  | ref a v hr =>
    intro v2 g
    cases a <;> first | exact hr.elim | skip
    all_goals
      cases g with
      | ref _ _ g => exact .ref _ _ (hE _ _ _ hr g)

theorem E_back {e e' : Env} {h h' : Hp} (hc : ∀ L, h.con L = .none ∨ h'.con L = h.con L) (a : AV) (v1 v2 : Value) (h1 : e.E h a v1) (h2 : e'.E h' a v2) : e'.E h a v2 := by
  have live : ∀ L, (h.con L).live → (h'.con L).live := fun L hl => by
    rcases hc L with hn | hn
    · rw [hn] at hl; exact hl.elim
    · rw [hn]; exact hl
  cases a with
  | pt L sz i j => exact ⟨h1.1, h2.2.1, fun hl => h2.2.2 (live L hl)⟩
  | os L => exact ⟨h1.1, h2.2.1, fun hl => h2.2.2 (live L hl)⟩
  | mr L => exact ⟨h1.1, h2.2.1, fun hl => h2.2.2 (live L hl)⟩
  | yl L => exact ⟨h1.1, h2.2⟩
  | _ => exact h1.elim

theorem has_back {e' : Env} {h h' : Hp} (hc : ∀ L, h.con L = .none ∨ h'.con L = h.con L) (hcnt : ∀ f s, h.cnt f s ≤ h'.cnt f s) {L : Lab} (hL : e'.has h L) : e'.has h' L := by
  obtain ⟨hk, hm⟩ := hL
  refine ⟨Nat.lt_of_lt_of_le hk (hcnt _ _), ?_⟩
  rcases hc L with hn | hn
  · rw [hn] at hm; exact hm.elim
  · rw [hn]; exact hm

theorem HRel.back {w w' : World} {B B' : Nat → Prop} {e e' : Env} {h h' : Hp} (hh : HRel w B e h) (hh' : HRel w' B' e' h') (x : Ext w B e h w' B' e' h') (hc : ∀ L, h.con L = .none ∨ h'.con L = h.con L) : HRel w' B' e' h := by
  have hr : ∀ {a v1 v2}, R w B (e.E h) a v1 → R w' B' (e'.E h') a v2 → R w' B' (e'.E h) a v2 := fun g1 g2 => R.restore (E_back hc) g1 _ g2
  refine ⟨fun L hk => ?_, fun M M' hM hM' hb => hh'.inj _ _ (has_back hc x.cnt hM) (has_back hc x.cnt hM') hb, hh'.bnd⟩
  have hcon := hh.con L hk
  have hcon' := hh'.con L (Nat.lt_of_lt_of_le hk (x.cnt _ _))
  obtain ⟨e1, e2⟩ := x.env L hk
  rcases hc L with hn | hn
  · rw [hn]; trivial
  · rw [hn] at hcon'
    cases hcc : h.con L with
    | none => trivial
    | blk cs =>
      rw [hcc] at hcon hcon'
      obtain ⟨_, _, vs, T, _, _, g1⟩ := hcon
      obtain ⟨p1, p2, vs', T', p3, p4, g2⟩ := hcon'
      exact ⟨p1, p2, vs', T', p3, p4, fun j hj => hr (g1 j hj) (g2 j hj)⟩
    | arr sz xs =>
      rw [hcc] at hcon hcon'
      obtain ⟨a, cap, q1, q2, q3, q4⟩ := hcon
      obtain ⟨a', cap', p1, p2, p3, p4⟩ := hcon'
      refine ⟨a', cap', p1, p2, p3, ?_⟩
      rcases p4 with p4 | ⟨p4, p5, p6, vs', T', p7, p8, p9⟩
      · exact .inl p4
      · rw [e2, q1] at p1
        injection p1 with _ _ hcap
        rcases q4 with q4 | ⟨_, _, _, vs, T, _, _, q9⟩
        · exact .inl (by omega)
        · exact .inr ⟨p4, p5, p6, vs', T', p7, p8, fun i j hi hj => ⟨hr (q9 i j hi hj).1 (p9 i j hi hj).1, (p9 i j hi hj).2⟩⟩
    | lp sl n ps asg bd s =>
      rw [hcc] at hcon hcon'
      obtain ⟨_, r, _, _, _, _, _, g1, _⟩ := hcon
      obtain ⟨p1, r', p2, p3, p4, p5, p6, g2, p7⟩ := hcon'
      exact ⟨p1, r', p2, p3, p4, p5, p6, fun i => hr (g1 i) (g2 i), p7⟩
    | mp es ck =>
      rw [hcc] at hcon hcon'
      obtain ⟨_, ents, _, _, g1⟩ := hcon
      obtain ⟨p1, ents', p2, p3, g2⟩ := hcon'
      exact ⟨p1, ents', p2, p3, fun j hj => ⟨hr (g1 j hj).1 (g2 j hj).1, hr (g1 j hj).2.1 (g2 j hj).2.1, (g2 j hj).2.2⟩⟩

theorem Ext.back {w w' : World} {B B' : Nat → Prop} {e e' : Env} {h h' : Hp} (x : Ext w B e h w' B' e' h') (hc : ∀ L, h.con L = .none ∨ h'.con L = h.con L) : Ext w B e h w' B' e' h where
  size := x.size
  os := x.os
  tape := x.tape
  output := x.output
  bsub := x.bsub
  bnew := x.bnew
  keep := x.keep
  onew L hL := x.onew L (has_back hc x.cnt hL)
  cnt _ _ := Nat.le_refl _
  env := x.env
  live _ _ h := h

/-- **A function that leaves what it found, and whose answer bears no label, leaves the heap aas it was.** -/
theorem CallK.pure {P : Program} {f : Nat} {args : List AV} {h : Hp} {K : AV → Prop} (hc : CallK P f args h (fun r h' => r.lf = true ∧ (∀ L, h.con L = .none ∨ h'.con L = h.con L) ∧ K r)) :
    CallK P f args h (fun r h' => K r ∧ h' = h) := by
  intro w B e vs h1 h2 h3
  refine (hc w B e vs h1 h2 h3).mono ?_
  rintro en w' ⟨v, r, h', B', e', rfl, g2, g3, g4, g5, g6, g7⟩
  exact ⟨v, r, h, B', e', rfl, h1.back g2 g3 g6, g3.back g6, g4.lf g5, g7, rfl⟩

theorem PureF.use {P : Program} {f : FuncId} {args : List AV} {r : AV} (hp : PureF P f args r) {h : Hp} {K : AV → Hp → Prop} (hk : K r h) : CallK P f args h K :=
  (hp h).mono fun _ _ ⟨h1, h2⟩ => by rw [h1, h2]; exact hk

/-- What was found is aas it was. -/
def Keeps (h H : Hp) : Prop := ∀ L, h.con L = .none ∨ H.con L = h.con L
theorem Keeps.refl (h : Hp) : Keeps h h := fun _ => .inr rfl
theorem Keeps.alloc {h H : Hp} (k : Keeps h H) (f s : Nat) (c : Con) : Keeps h (H.alloc f s c) := by
  intro L
  by_cases hE : L = H.fresh f s
  · have h1 := H.ok (H.fresh f s) (by simp [Hp.fresh])
    rcases k L with h2 | h2
    · exact .inl h2
    · rw [hE, h1] at h2
      rw [hE]; exact .inl h2.symm
  · rcases k L with h2 | h2
    · exact .inl h2
    · right; rw [← h2]; exact if_neg hE
theorem Keeps.set {h H : Hp} (k : Keeps h H) {L : Lab} (hL : h.con L = .none) (c : Con) : Keeps h (H.set L c) := by
  intro M
  by_cases hE : M = L
  · rw [hE]; exact .inl hL
  · rcases k M with h2 | h2
    · exact .inl h2
    · right; rw [← h2]; exact if_neg hE
theorem Keeps.new {h H : Hp} (k : Keeps h H) (f s : Nat) : h.con ⟨f, s, H.cnt f s⟩ = .none := by
  rcases k ⟨f, s, H.cnt f s⟩ with h2 | h2
  · exact h2
  · rw [← h2]; exact H.ok _ (by simp)
theorem Keeps.var {h H : Hp} (k : Keeps h H) (f s : Nat) (c c' : Con) : Keeps h ((H.alloc f s c).set ⟨f, s, H.cnt f s⟩ c') := (k.alloc f s c).set (k.new f s) c'

/-- The end of a pure function that answers r. -/
def endP (P : Program) (fn : Func) (r : AV) (h : Hp) : Ex → St → Prop
  | .exit _, _ => False
  | _, st => resK P fn.results.toList st (fun vs => oneOf vs = r) ∧ Keeps h st.hp

theorem PureAt.of_awp {P : Program} (hm : P.follows .mixedOrders = true) (T : Nat → List Tg) {f : FuncId} {fn : Func} {c : Code} {args : List AV} {h : Hp} {r : AV} (hf : P.funcs[f]? = some fn) (hb : fn.body = some c) (hok : okCode fn.ntmps T c = true)
    (hl : args.length ≤ fn.ntmps) (hlf : r.lf = true) (hk : awp P f T c (endP P fn r h) (enter args h)) : CallK P f args h (fun r' h' => r' = r ∧ h' = h) := by
  have hQ : ∀ ex st, endP P fn r h ex st → endK P fn (fun r' h' => r' = r ∧ Keeps h h') ex st := by
    have key : ∀ st, (resK P fn.results.toList st (fun vs => oneOf vs = r) ∧ Keeps h st.hp) → resK P fn.results.toList st (fun vs => ∃ h' : Hp, (∀ L, h'.con L = .none ∨ h'.con L = st.hp.con L) ∧ h'.cnt = st.hp.cnt ∧ oneOf vs = r ∧ Keeps h h') := by
      rintro st ⟨h1, h2⟩
      exact resK_mono h1 fun vs hv => ⟨st.hp, fun _ => .inr rfl, rfl, hv, h2⟩
    intro ex st hx
    cases ex with
    | exit id => exact hx.elim
    | normal => exact key st hx
    | ret => exact key st hx
  refine CallK.pure ((CallK.of_awp' hm T hf hb hok hl hQ hk).mono ?_)
  rintro r' h' ⟨rfl, h2⟩
  exact ⟨hlf, h2, rfl⟩

theorem PureF.of_awp {P : Program} (hm : P.follows .mixedOrders = true) (T : Nat → List Tg) {f : FuncId} {fn : Func} {c : Code} {args : List AV} {r : AV} (hf : P.funcs[f]? = some fn) (hb : fn.body = some c) (hok : okCode fn.ntmps T c = true)
    (hl : args.length ≤ fn.ntmps) (hlf : r.lf = true) (hk : ∀ h, awp P f T c (endP P fn r h) (enter args h)) : PureF P f args r :=
  fun h => PureAt.of_awp hm T hf hb hok hl hlf (hk h)

/-- The end of a function that leaves the heap aas it stands. -/
def endH (P : Program) (fn : Func) (K : AV → Hp → Prop) : Ex → St → Prop
  | .exit _, _ => False
  | _, st => resK P fn.results.toList st (fun vs => K (oneOf vs) st.hp)
theorem CallK.of_awpH {P : Program} (hm : P.follows .mixedOrders = true) (T : Nat → List Tg) {f : FuncId} {fn : Func} {c : Code} {args : List AV} {h : Hp} {K : AV → Hp → Prop} (hf : P.funcs[f]? = some fn) (hb : fn.body = some c) (hok : okCode fn.ntmps T c = true)
    (hl : args.length ≤ fn.ntmps) (hk : awp P f T c (endH P fn K) (enter args h)) : CallK P f args h K := by
  refine CallK.of_awp' hm T hf hb hok hl (fun ex st hx => ?_) hk
  have key : ∀ st, resK P fn.results.toList st (fun vs => K (oneOf vs) st.hp) → resK P fn.results.toList st (fun vs => ∃ h' : Hp, (∀ L, h'.con L = .none ∨ h'.con L = st.hp.con L) ∧ h'.cnt = st.hp.cnt ∧ K (oneOf vs) h') :=
    fun st h => resK_mono h fun vs hv => ⟨st.hp, fun _ => .inr rfl, rfl, hv⟩
  cases ex with
  | exit id => exact hx.elim
  | normal => exact key st hx
  | ret => exact key st hx

theorem lab_ne {L : Lab} {h : Hp} (hl : (h.con L).live) (f s : Nat) : (L = ⟨f, s, h.cnt f s⟩) = False := by
  simp only [eq_iff_iff, iff_false]
  intro hE
  have := h.ok L (by rw [hE]; simp)
  rw [this] at hl
  exact hl
theorem ne_lab {L : Lab} {h : Hp} (hl : (h.con L).live) (f s : Nat) : ((⟨f, s, h.cnt f s⟩ : Lab) = L) = False := by
  simp only [eq_iff_iff, iff_false]
  intro hE
  have := lab_ne hl f s
  rw [← this]; exact hE.symm

theorem eqK_mono {q : EqI} {x y : AV} {K K' : Bool → Prop} (h : eqK q x y K) (hK : ∀ b, K b → K' b) : eqK q x y K' := by
  unfold eqK at h ⊢
  split at h
  all_goals first
    | exact h.elim
    | exact hK _ h
    | exact ⟨h.1, fun e => hK _ (h.2.1 e), hK _ h.2.2⟩
    | exact ⟨h.1, h.2.1, h.2.2.1, h.2.2.2.imp fun b hb => ⟨hb.1, hK _ hb.2⟩⟩
theorem binK_mono {q : EqI} {op : BinOp} {x y : AV} {K K' : AV → Prop} (h : binK q op x y K) (hK : ∀ b, K b → K' b) : binK q op x y K' := by
  by_cases hq : q.yn = false
  · obtain ⟨v, h1, h2⟩ := fn_binK hq _ h
    exact h2 _ (hK _ h1)
  · unfold binK at h ⊢
    split at h
    · split at h
      · exact ⟨h.1, hK _ h.2⟩
      · exact ⟨h.1, hK _ h.2⟩
      · exact ⟨h.1, h.2.1, hK _ h.2.2⟩
      · exact ⟨h.1, h.2.1, hK _ h.2.2⟩
      · exact ⟨h.1, h.2.imp fun v hv => ⟨hv.1, hK _ hv.2⟩⟩
    · split at h
      · exact ⟨h.1, hK _ h.2⟩
      · exact hK _ h
      · exact hK _ h
      · exact h.elim
    · split at h
      · exact eqK_mono h fun b => hK _
      · exact eqK_mono h fun b => hK _
      · exact h.elim
theorem opK_mono {P : Program} {fid : Nat} {o : Oper} {st : St} {K K' : St → Prop} (h : opK P fid o st K) (hK : ∀ s, K s → K' s) : opK P fid o st K' := by
  by_cases hc : (post .plain o || calls .plain o) = true
  · have hg : ∀ {K}, stepT P fid [] .plain { o with guard := none } st K = opK P fid o st K := by intro K; simp [stepT, guardG, opT, opK]
    have := step_mono (P := P) (fid := fid) (ops := []) (tg := .plain) (o := { o with guard := none }) (st := st) (K := K) (K' := K') hc (by rw [hg]; exact h) hK
    rw [hg] at this; exact this
  · unfold opK at h ⊢
    cases hop : o.op <;> rw [hop] at h <;> simp only [hop, post, quiet, qS, qL, qB, pAny, calls, isS, isL, isAl, isMk, isAp, isMe, isSt, isCv, Bool.or_true, Bool.or_false, Bool.false_or, not_true_eq_false] at hc <;> try exact h.elim
    case binOp => exact binK_mono h fun v => hK _
    case call c =>
      obtain ⟨callee, args, ats⟩ := c
      cases callee with
      | value f => simp at hc
      | invoke r m => exact h.elim
      | builtin b =>
        cases b <;> first
          | exact h.elim
          | (simp at hc; done)
          | (simp only [calleeK] at h ⊢
             unfold mmK at h ⊢
             split at h
             · exact hK _ h
             · exact h.elim)
theorem opT_mono {P : Program} {fid : Nat} {tg : Tg} {o : Oper} {st : St} {K K' : St → Prop} (h : opT P fid tg o st K) (hK : ∀ s, K s → K' s) : opT P fid tg o st K' := by
  cases tg with
  | plain => exact opK_mono h hK
  | blk => exact ⟨h.1, opK_mono h.2 hK⟩
  | avoid ss => exact ⟨h.1, opK_mono h.2 hK⟩
  | mine => exact ⟨h.1, opK_mono h.2 hK⟩
  | pure =>
    simp only [opT] at h ⊢
    unfold pureO at h ⊢
    split at h
    · unfold pureK at h ⊢
      split at h
      · exact ⟨h.1, h.2.imp fun v hv => ⟨hv.1, hK _ hv.2⟩⟩
      · exact h.elim
    · exact h.elim
theorem opsK_mono {P : Program} {fid : Nat} {K K' : St → Prop} (hK : ∀ s, K s → K' s) : ∀ (ops : List Oper) (tg : List Tg) (done : List (Option Nat)) (st : St), opsK P fid tg done ops st K → opsK P fid tg done ops st K' := by
  intro ops
  induction ops with
  | nil => intro tg done st h; exact hK _ h
  | cons o ops ih =>
    intro tg done st h
    simp only [opsK] at h ⊢
    unfold guardG at h ⊢
    split at h
    · exact opT_mono h fun s hs => ih _ _ _ hs
    · unfold guardO at h ⊢
      split at h
      · unfold guardK at h ⊢
        split at h
        · exact ⟨fun e => opT_mono (h.1 e) fun s hs => ih _ _ _ hs, fun e => ih _ _ _ (h.2 e)⟩
        · exact ih _ _ _ h
        · exact h.elim
      · exact h.elim
theorem awp_mono {P : Program} {fid : Nat} {T : Nat → List Tg} : ∀ {c : Code} {Q Q' : Ex → St → Prop} {st : St}, awp P fid T c Q st → (∀ x s, Q x s → Q' x s) → awp P fid T c Q' st := by
  intro c
  induction c with
  | skip => intro Q Q' st h hQ; simp only [awp] at h ⊢; exact hQ _ _ h
  | region id ops dr => intro Q Q' st h hQ; simp only [awp] at h ⊢; exact opsK_mono (fun s => hQ _ s) _ _ _ _ h
  | seq a b iha ihb =>
    intro Q Q' st h hQ
    simp only [awp] at h ⊢
    refine iha h fun x s hs => ?_
    cases x with
    | normal => exact ihb hs hQ
    | exit id => exact hQ _ _ hs
    | ret => exact hQ _ _ hs
  | cond c a b iha ihb =>
    intro Q Q' st h hQ
    simp only [awp] at h ⊢
    unfold condK at h ⊢
    split at h
    · exact ⟨fun e => iha (h.1 e) hQ, fun e => ihb (h.2 e) hQ⟩
    · exact h.elim
  | block id c ih =>
    intro Q Q' st h hQ
    simp only [awp] at h ⊢
    refine ih h fun x s hs => ?_
    cases x with
    | normal => exact hQ _ _ hs
    | exit id' =>
      simp only [blockQ] at hs ⊢
      split at hs
      · rename_i e; rw [if_pos e]; exact hQ _ _ hs
      · rename_i e; rw [if_neg e]; exact hQ _ _ hs
    | ret => exact hQ _ _ hs
  | loop c ih =>
    intro Q Q' st h hQ
    simp only [awp] at h ⊢
    obtain ⟨I, μ, h1, h2⟩ := h
    refine ⟨I, μ, h1, fun s hs => ih (h2 s hs) fun x s' hs' => ?_⟩
    cases x with
    | normal => exact hs'
    | exit id => exact hQ _ _ hs'
    | ret => exact hQ _ _ hs'
  | exit id => intro Q Q' st h hQ; simp only [awp] at h ⊢; exact hQ _ _ h
  | label l => intro Q Q' st h hQ; simp only [awp] at h ⊢; exact hQ _ _ h
  | scope c ih => intro Q Q' st h hQ; simp only [awp] at h ⊢; exact ih h hQ
  | ret => intro Q Q' st h hQ; simp only [awp] at h ⊢; exact hQ _ _ h
  | goto l => intro Q Q' st h hQ; simp only [awp] at h
  | rangeFunc g ps x y _ _ =>
    intro Q Q' st h hQ
    simp only [awp] at h ⊢
    unfold rangeK at h ⊢
    split at h
    · refine ⟨h.1, h.2.mono fun r h' hk => ?_⟩
      unfold endLpC at hk ⊢
      split at hk
      · exact hQ _ _ hk
      · exact hQ _ _ hk
      · exact hQ _ _ hk
      · exact hk.elim
    · exact h.elim
  | refuse why => intro Q Q' st h hQ; simp only [awp] at h
/-- What is known between two parts is said once. -/
theorem awp_cut {P : Program} {fid : Nat} {T : Nat → List Tg} {a b : Code} {Q : Ex → St → Prop} {st : St} (M : St → Prop) (h1 : awp P fid T a (thenQ M Q) st) (h2 : ∀ s, M s → awp P fid T b Q s) : awp P fid T (.seq a b) Q st := by
  simp only [awp]
  refine awp_mono h1 fun x s hs => ?_
  cases x with
  | normal => exact h2 s hs
  | exit id => exact hs
  | ret => exact hs

end Go.T
/- The rules by which simp runs the abstract semantics. None is a definitional equation for simp: each is a rewrite of its own. -/
namespace Go.T
open Go

/- What follows a call or a map's reading, kept from simp: an argument whose type hangs on it holds it fast. -/
structure Tok {α : Type} (K : α) : Type where
def CallX (P : Program) (f : FuncId) (args : List AV) (h : Hp) (K : AV → Hp → Prop) (_ : Tok K) : Prop := CallK P f args h K
def PureX (P : Program) (f : FuncId) (args : List AV) (K : AV → Prop) (_ : Tok K) : Prop := ∃ v, PureF P f args v ∧ K v
def LookX (cs : List AV) (es : List (AV × AV × Nat)) (ok : Bool) (z : AV) (K : AV → Prop) (_ : Tok K) : Prop := ∃ r, findM cs es 0 = some r ∧ lookR es ok z r K
def EntryX (h : Hp) (L : Lab) (es : List (AV × AV × Nat)) (ck : Nat) (z : AV) (cs : List AV) (K : AV → Hp → Prop) (_ : Tok K) : Prop := ∃ r, findM cs es 0 = some r ∧ entryR h L es ck z cs r K
def StoreX (h : Hp) (L : Lab) (es : List (AV × AV × Nat)) (ck : Nat) (v : AV) (b : Int) (K : Hp → Prop) (_ : Tok K) : Prop := estoreR h L es ck v (findB b es 0) K
theorem CallX.of {P : Program} {f : FuncId} {args : List AV} {h : Hp} {K : AV → Hp → Prop} {u : Tok K} (hc : CallK P f args h K) : CallX P f args h K u := hc
theorem CallX.pure {P : Program} {f : FuncId} {args : List AV} {h : Hp} {K : AV → Hp → Prop} {u : Tok K} {r : AV} (hp : PureF P f args r) (hk : K r h) : CallX P f args h K u := hp.use hk
theorem PureX.of {P : Program} {f : FuncId} {args : List AV} {K : AV → Prop} {u : Tok K} {r : AV} (hp : PureF P f args r) (hk : K r) : PureX P f args K u := ⟨r, hp, hk⟩
theorem LookX.of {cs : List AV} {es : List (AV × AV × Nat)} {ok : Bool} {z : AV} {K : AV → Prop} {u : Tok K} {r : Option Nat} (h : findM cs es 0 = some r) (hk : lookR es ok z r K) : LookX cs es ok z K u := ⟨r, h, hk⟩
theorem EntryX.of {h : Hp} {L : Lab} {es : List (AV × AV × Nat)} {ck : Nat} {z : AV} {cs : List AV} {K : AV → Hp → Prop} {u : Tok K} {r : Option Nat} (hf : findM cs es 0 = some r) (hk : entryR h L es ck z cs r K) : EntryX h L es ck z cs K u := ⟨r, hf, hk⟩
theorem StoreX.of {h : Hp} {L : Lab} {es : List (AV × AV × Nat)} {ck : Nat} {v : AV} {b : Int} {K : Hp → Prop} {u : Tok K} {r : Option Nat} (hf : findB b es 0 = r) (hk : estoreR h L es ck v r K) : StoreX h L es ck v b K u := by subst hf; exact hk

/- Values are reckoned before they are laid down. -/
def letK (v : AV) (K : AV → Prop) : Prop := K v
def letL (v : List AV) (K : List AV → Prop) : Prop := K v
def hid (h : Hp) : Hp := h
def letH (h : Hp) (K : Hp → Prop) : Prop := K h
@[go_sem] theorem letK_eq {v K} : letK v K = K v := propext Iff.rfl
@[go_sem] theorem letL_eq {v K} : letL v K = K v := propext Iff.rfl
@[go_sem] theorem letH_eq {v K} : letH v K = K v := propext Iff.rfl
@[go_sem] theorem hid_eq {h} : hid h = h := by simp [hid]
@[congr] theorem letK_congr {v v' : AV} {K : AV → Prop} (e : v = v') : letK v K = letK v' K := by subst e; rfl
@[congr] theorem letL_congr {v v' : List AV} {K : List AV → Prop} (e : v = v') : letL v K = letL v' K := by subst e; rfl
@[congr] theorem letH_congr {v v' : Hp} {K : Hp → Prop} (e : v = v') : letH v K = letH v' K := by subst e; rfl

def sucN (n : Nat) : Nat := n + 1
def hidN (n : Nat) : Nat := n
def selO (b : Bool) (v w : Option Nat) : Option Nat := if b then v else w
/-- The slot of the j-th of the n operations ahead, of which the last stands first. -/
def nthR : List (Option Nat) → Nat → Nat → Option Nat
  | [], _, _ => .none
  | d :: r, n, j => selO (j + 1 == n) d (nthR r (n - 1) j)
theorem nthR_eq : ∀ (done : List (Option Nat)) (j : Nat), nthR done done.length j = done.reverse.getD j .none := by
  intro done
  induction done with
  | nil => intro j; simp [nthR]
  | cons d r ih =>
    intro j
    simp only [nthR, List.length_cons, Nat.add_sub_cancel, ih, List.reverse_cons, selO]
    by_cases hj : j = r.length
    · subst hj; simp
    · have h1 : ¬ (j + 1 == r.length + 1) = true := by simpa using hj
      rw [if_neg h1]
      rcases Nat.lt_or_ge j r.length with hl | hl
      · simp [List.getElem?_append_left, hl]
      · have : r.length < j := by omega
        simp [List.getD_eq_getElem?_getD, List.getElem?_append_right, hl]
        have h2 : ∃ m, j - r.length = m + 1 := ⟨j - r.length - 1, by omega⟩
        obtain ⟨m, hm⟩ := h2
        rw [hm]; simp
/-- A region's operations, one behind the other: for simp: 'done' stands backwards, and how many they are stands beside. -/
def opsR (P : Program) (fid : Nat) : List Tg → Nat → List (Option Nat) → List Oper → St → (St → Prop) → Prop
  | _, _, _, [], st, K => K st
  | tg, n, done, o :: r, st, K =>
    guardG o.guard
      (opT P fid (headT tg) o st (fun st' => opsR P fid (tailT tg) (n + 1) (o.dst :: done) r st' K))
      (fun j want => guardO (nthR done n j) fun d => guardK (st.slots d) want
        (opT P fid (headT tg) o (st.put (some d) (.bool want)) (fun st' => opsR P fid (tailT tg) (n + 1) (o.dst :: done) r st' K))
        (opsR P fid (tailT tg) (n + 1) (o.dst :: done) r ((st.put (some d) (.bool (!want))).put o.dst .un) K)
        (opsR P fid (tailT tg) (n + 1) (o.dst :: done) r (st.put o.dst .un) K))
theorem opsR_eq {P : Program} {fid : Nat} {K : St → Prop} {l : List Oper} : ∀ {tg : List Tg} (done : List (Option Nat)) (n : Nat) {st : St} (_ : n = done.length), opsK P fid tg done.reverse l st K = opsR P fid tg n done l st K := by
  induction l with
  | nil => intro tg done n st _; simp [opsK, opsR]
  | cons o r ih =>
    intro tg done n st hn
    have e : ∀ st', opsK P fid (tailT tg) (done.reverse ++ [o.dst]) r st' K = opsR P fid (tailT tg) (n + 1) (o.dst :: done) r st' K := fun st' => by
      rw [← ih (o.dst :: done) (n + 1) (by simp [hn])]; simp
    have e2 : nthR done n = fun j => done.reverse.getD j .none := by funext j; rw [hn, nthR_eq]
    simp only [opsK, opsR, e, e2]

section ops
variable {P : Program} {fid : Nat} {d : Option Nat} {ty : TypeId} {ps : String} {af : Array Edge} {g : Option (Nat × Bool)} {st : St} {K : St → Prop}
attribute [go_sem] put_none put_hp withHp_slots withHp_hp
def sel (b : Bool) (v w : AV) : AV := if b then v else w
@[go_sem ↓, go_sem] theorem sel_t {v w} : sel true v w = v := by simp [sel]
@[go_sem ↓, go_sem] theorem sel_f {v w} : sel false v w = w := by simp [sel]
@[go_sem ↓, go_sem] theorem put_slots' (st : St) (d : Nat) (v : AV) (m : Nat) : (st.put (some d) v).slots m = sel (m == d) v (st.slots m) := by rw [put_slots]; simp [sel]
@[go_sem ↓, go_sem] theorem opK_move {x} : opK P fid ⟨d, .move x, ty, ps, af, g⟩ st K = letK (st.ev x) (fun v => K (st.put d v)) := propext Iff.rfl
@[go_sem ↓, go_sem] theorem opK_assign {x} : opK P fid ⟨d, .assign x, ty, ps, af, g⟩ st K = letK (st.ev x) (fun v => K (st.put d v)) := propext Iff.rfl
@[go_sem ↓, go_sem] theorem pickK_t {a b K} : pickK (.bool true) a b K = K a := propext Iff.rfl
@[go_sem ↓, go_sem] theorem pickK_f {a b K} : pickK (.bool false) a b K = K b := propext Iff.rfl
@[go_sem ↓, go_sem] theorem opK_pick {c a b} : opK P fid ⟨d, .pick c a b, ty, ps, af, g⟩ st K = pickK (st.ev c) (st.ev a) (st.ev b) (fun v => K (st.put d v)) := propext Iff.rfl
@[go_sem ↓, go_sem] theorem opK_alloc {t} : opK P fid ⟨d, .alloc t, ty, ps, af, g⟩ st K =
  (tok P t = true ∧ letH (hid st.hp) (fun H => K ((st.withHp (H.alloc fid (d.getD 0) (.blk (tzero P t).cells))).put d (.pt (H.fresh fid (d.getD 0)) 0 0 0)))) := propext Iff.rfl
@[go_sem ↓, go_sem] theorem opK_box {t x} : opK P fid ⟨d, .box t x, ty, ps, af, g⟩ st K =
  boxK (st.ev x) (fun cs => letH (hid st.hp) (fun H => K ((st.withHp (H.alloc fid (d.getD 0) (.blk cs))).put d (.pt (H.fresh fid (d.getD 0)) 0 0 0)))) := propext Iff.rfl
@[go_sem ↓, go_sem] theorem opK_load {t a} : opK P fid ⟨d, .load t a, ty, ps, af, g⟩ st K = (tin P t = true ∧ loadK st.hp (tk P t).agg (tsz P t) (st.ev a) (fun v => K (st.put d v))) := propext Iff.rfl
@[go_sem ↓, go_sem] theorem opK_store {t a x} : opK P fid ⟨d, .store t a x, ty, ps, af, g⟩ st K = (tin P t = true ∧ storeK st.hp (tsz P t) (st.ev a) (st.ev x) (fun h => K ((st.withHp h).put d .un))) := propext Iff.rfl
@[go_sem ↓, go_sem] theorem opK_binOp {op xt x y yt} : opK P fid ⟨d, .binOp op xt x y yt, ty, ps, af, g⟩ st K = binK (EqI.mk' P xt y) op (st.ev x) (st.ev y) (fun v => K (st.put d v)) := propext Iff.rfl
@[go_sem ↓, go_sem] theorem opK_unOp {op xt x} : opK P fid ⟨d, .unOp op xt x, ty, ps, af, g⟩ st K = unK op (st.ev x) (fun v => K (st.put d v)) := propext Iff.rfl
@[go_sem ↓, go_sem] theorem opK_makeFunc {fn first caps} : opK P fid ⟨d, .makeFunc fn first caps, ty, ps, af, g⟩ st K = (first.isEmpty = true ∧ letL (caps.toList.map st.ev) (fun vs => K (st.put d (.fn fn vs)))) := propext Iff.rfl
@[go_sem ↓, go_sem] theorem fieldAddrO_some {off n t a K} : fieldAddrO (some (off, n, t)) a K = fieldAddrK off a K := propext Iff.rfl
@[go_sem ↓, go_sem] theorem opK_fieldAddr {s x f} : opK P fid ⟨d, .fieldAddr s x f, ty, ps, af, g⟩ st K = fieldAddrO (fof P s f) (st.ev x) (fun v => K (st.put d v)) := propext Iff.rfl
@[go_sem ↓, go_sem] theorem indexAddrO_s {e h x ix K} : indexAddrO P (.slice e) h x ix K = (tin P e = true ∧ 0 < tsz P e ∧ indexAddrK h .none (tsz P e) x ix K) := propext Iff.rfl
@[go_sem ↓, go_sem] theorem opK_indexAddr {t x ix} : opK P fid ⟨d, .indexAddr t x ix, ty, ps, af, g⟩ st K = indexAddrO P (tk P t) st.hp (st.ev x) (st.ev ix) (fun v => K (st.put d v)) := propext Iff.rfl
@[go_sem ↓, go_sem] theorem callV_fn {gg caps args h K} : callV P (.fn (.func gg) caps) args h K = (hasBody P gg = true ∧ CallX P gg (args ++ caps) h K ⟨⟩) := propext Iff.rfl
@[go_sem ↓, go_sem] theorem opK_call {f args ats} : opK P fid ⟨d, .call ⟨.value f, args, ats⟩, ty, ps, af, g⟩ st K = callV P (st.ev f) (args.toList.map st.ev) st.hp (fun r h => K ((st.withHp h).put d r)) := propext Iff.rfl
@[go_sem ↓, go_sem] theorem lenO_s {e h x K} : lenO (.slice e) h x K = lenK h x K := propext Iff.rfl
@[go_sem ↓, go_sem] theorem opK_len {x t} : opK P fid ⟨d, .call ⟨.builtin .len, #[x], #[t]⟩, ty, ps, af, g⟩ st K = lenO (tk P t) st.hp (st.ev x) (fun v => K (st.put d v)) := propext Iff.rfl
@[go_sem ↓, go_sem] theorem opK_build {t parts} : opK P fid ⟨d, .build t parts, ty, ps, af, g⟩ st K = buildK P (tk P t) t st.ev parts.toList (fun v => K (st.put d v)) := propext Iff.rfl
@[go_sem ↓, go_sem] theorem opK_buildSlice {t n parts} : opK P fid ⟨d, .buildSlice t n parts, ty, ps, af, g⟩ st K = buildSliceK P (tk P t) n st.ev parts.toList (fun v => K (st.put d v)) := propext Iff.rfl
@[go_sem ↓, go_sem] theorem opK_nilCheck {x} : opK P fid ⟨d, .nilCheck x, ty, ps, af, g⟩ st K = nilCheckK (st.ev x) (fun v => K (st.put d v)) := propext Iff.rfl
@[go_sem ↓, go_sem] theorem opK_extract {x i} : opK P fid ⟨d, .extract x i, ty, ps, af, g⟩ st K = extractK (st.ev x) i (fun v => K (st.put d v)) := propext Iff.rfl
def appendA (P : Program) (fid s : Nat) (ats : List TypeId) (args : List AV) (h : Hp) (K : AV → Hp → Prop) : Prop := match args, ats with
    | [x, y], [t, u] => appendO P (tk P t) (tk P u) h fid s x y K
    | _, _ => False
@[go_sem ↓, go_sem] theorem appendA_eq {fid s t u x y h} {K : AV → Hp → Prop} : appendA P fid s [t, u] [x, y] h K = appendO P (tk P t) (tk P u) h fid s x y K := propext Iff.rfl
@[go_sem ↓, go_sem] theorem opK_append {args ats} : opK P fid ⟨d, .call ⟨.builtin .append, args, ats⟩, ty, ps, af, g⟩ st K = appendA P fid (d.getD 0) ats.toList (args.toList.map st.ev) st.hp (fun r h => K ((st.withHp h).put d r)) := propext Iff.rfl
@[go_sem ↓, go_sem] theorem appendO_s {e u h f s x y} {K : AV → Hp → Prop} : appendO P (.slice e) (.slice u) h f s x y K = (tok P e = true ∧ appendK h f s (tsz P e) (tbytes P e) x y K) := propext Iff.rfl
@[go_sem ↓, go_sem] theorem appendK_eq {h f s sz bytes x y} {K : AV → Hp → Prop} : appendK h f s sz bytes x y K = appendY (elemsOf h y) sz (fun ys => appendX h f s sz bytes x ys K) := propext Iff.rfl
@[go_sem ↓, go_sem] theorem appendY_s {sz' ys sz} {K : List AV → Prop} : appendY (some (sz', ys)) sz K = ((ys ≠ [] → sz' = sz) ∧ K ys) := propext Iff.rfl
@[go_sem] theorem elemsOf_l {h a b c} : elemsOf h (.l a b c) = some (b, c) := by simp [elemsOf]
@[go_sem ↓, go_sem] theorem appendX_l {h f s sz bytes a ys} {K : AV → Hp → Prop} : appendX h f s sz bytes (.l true a []) ys K = (ys.length * bytes ≤ 2 ^ 47 ∧ ys.length < 2 ^ 62 ∧ 0 < bytes ∧ K (.os (h.fresh f s)) (h.alloc f s (.arr sz ys))) := propext Iff.rfl
@[go_sem ↓, go_sem] theorem buildSliceK_s {k n ev parts} {K : AV → Prop} : buildSliceK P (.slice k) n ev parts K = (tok P k = true ∧ 0 < tsz P k ∧ inOrder 0 parts = true ∧ parts.length = n ∧ n * tsz P k ≤ 2 ^ 24 ∧
        partsK (tsz P k) (parts.map (fun p => ev p.2)) ∧ letL (parts.map (fun p => ev p.2)) (fun vs => K (.l true (tsz P k) vs))) := propext Iff.rfl
@[go_sem ↓, go_sem] theorem buildK_s {t ev parts} {K : AV → Prop} : buildK P .struct t ev parts K = (tok P t = true ∧ fsIn P t = true ∧ fillK (fun i => (fof P t i).map fun x => (x.1, x.2.1)) (tzero P t).cells ev parts (fun cs => K (.agg cs))) := propext Iff.rfl
@[go_sem ↓, go_sem] theorem fillK_nil {place cs ev} {K : List AV → Prop} : fillK place cs ev [] K = K cs := by simp [fillK]
def fillP (p : Option (Nat × Nat)) (cs : List AV) (x : AV) (K : List AV → Prop) : Prop := match p with
    | some (off, n) => x.cells.length = n ∧ x.cells.all AV.isCell = true ∧ off + n ≤ cs.length ∧ K (setRange cs off x.cells)
    | .none => False
@[go_sem ↓, go_sem] theorem fillP_s {off n cs x} {K : List AV → Prop} : fillP (some (off, n)) cs x K = (x.cells.length = n ∧ x.cells.all AV.isCell = true ∧ off + n ≤ cs.length ∧ K (setRange cs off x.cells)) := propext Iff.rfl
@[go_sem ↓, go_sem] theorem fillK_cons {place cs ev i x r} {K : List AV → Prop} : fillK place cs ev ((i, x) :: r) K = fillP (place i) cs (ev x) (fun cs => fillK place cs ev r K) := by
  simp only [fillK, fillP]
  cases place i <;> rfl
@[go_sem] theorem inOrder_nil {k} : inOrder k [] = true := by simp [inOrder]
@[go_sem] theorem inOrder_cons {k i x r} : inOrder k ((i, x) :: r) = ((i == k) && inOrder (k + 1) r) := by simp [inOrder]
@[go_sem] theorem partsK_nil {n} : partsK n [] = True := by simp [partsK]
@[go_sem] theorem partsK_cons {n x r} : partsK n (x :: r) = (x.cells.length = n ∧ x.cells.all AV.isCell = true ∧ partsK n r) := propext Iff.rfl
@[go_sem ↓, go_sem] theorem extractK_t {vs i} {K : AV → Prop} : extractK (.tup vs) i K = (i < vs.length ∧ K (vs.getD i .undef)) := by
  simp only [extractK, eq_iff_iff]
  constructor
  · rintro ⟨hi, hk⟩; exact ⟨hi, by rw [List.getD_eq_getElem?_getD, List.getElem?_eq_getElem hi]; exact hk⟩
  · rintro ⟨hi, hk⟩; exact ⟨hi, by rw [List.getD_eq_getElem?_getD, List.getElem?_eq_getElem hi] at hk; exact hk⟩
@[go_sem ↓, go_sem] theorem nilCheckK_ip {cs} {K : AV → Prop} : nilCheckK (.ip cs) K = K (.ip cs) := propext Iff.rfl
@[go_sem ↓, go_sem] theorem nilCheckK_pt {L a b c} {K : AV → Prop} : nilCheckK (.pt L a b c) K = K (.pt L a b c) := propext Iff.rfl
end ops

@[go_sem] theorem ev_tmp {st : St} {t} : st.ev (.tmp t) = st.slots t := by simp [St.ev]
@[go_sem] theorem ev_const {st : St} {v} : st.ev (.const v) = AV.ofVal v := by simp [St.ev]
@[go_sem] theorem ev_func {st : St} {f} : st.ev (.func f) = .fn (.func f) [] := by simp [St.ev]
@[go_sem] theorem ofVal_int {k n} : AV.ofVal (.int k n) = .int k n := by simp [AV.ofVal]
@[go_sem] theorem ofVal_bool {b} : AV.ofVal (.bool b) = .bool b := by simp [AV.ofVal]
@[go_sem] theorem ofVal_nilp : AV.ofVal (.pointer .none) = .nilp := by simp [AV.ofVal]
@[go_sem] theorem ofVal_nils : AV.ofVal (.slice .none 0 0) = .l true 0 [] := by simp [AV.ofVal]

section ks
variable {h : Hp} {K : AV → Prop}
@[go_sem ↓, go_sem] theorem loadK_ip {gg n cs} : loadK h gg n (.ip cs) K = (n ≤ cs.length ∧ 0 < n ∧ K (part gg n cs 0)) := propext Iff.rfl
@[go_sem ↓, go_sem] theorem loadC_blk {cs gg n sz i j} : loadC (.blk cs) gg n sz i j K = (i = 0 ∧ j + n ≤ cs.length ∧ 0 < n ∧ K (part gg n cs j)) := propext Iff.rfl
@[go_sem ↓, go_sem] theorem loadC_arr {sz' xs gg n sz i j} : loadC (.arr sz' xs) gg n sz i j K = (sz' = sz ∧ ∃ hi : i < xs.length, j + n ≤ sz ∧ 0 < n ∧ K (part gg n (xs[i]).cells j)) := propext Iff.rfl
@[go_sem ↓, go_sem] theorem loadK_pt {gg n L sz i j} : loadK h gg n (.pt L sz i j) K = loadC (h.con L) gg n sz i j K := propext Iff.rfl
@[go_sem ↓, go_sem] theorem storeK_eq {n a v} {K : Hp → Prop} : storeK h n a v K = (v.cells.length = n ∧ v.cells.all AV.isCell = true ∧ storeP h n a v.cells K) := propext Iff.rfl
@[go_sem ↓, go_sem] theorem storeP_pt {n L sz i j vs} {K : Hp → Prop} : storeP h n (.pt L sz i j) vs K = storeC (h.con L) h L n sz i j vs K := propext Iff.rfl
@[go_sem ↓, go_sem] theorem storeC_blk {cs L n sz i j vs} {K : Hp → Prop} : storeC (.blk cs) h L n sz i j vs K = (i = 0 ∧ j + n ≤ cs.length ∧ K (h.set L (.blk (setRange cs j vs)))) := propext Iff.rfl
@[go_sem ↓, go_sem] theorem storeC_arr {sz' xs L n sz i j vs} {K : Hp → Prop} : storeC (.arr sz' xs) h L n sz i j vs K = (sz' = sz ∧ ∃ hi : i < xs.length, j + n ≤ sz ∧ K (h.set L (.arr sz (xs.set i ((xs[i]).over j vs))))) := propext Iff.rfl
@[go_sem] theorem setRange_nil {cs j} : setRange cs j [] = cs := by simp [setRange]
@[go_sem] theorem setRange_cons {cs j v vs} : setRange cs j (v :: vs) = setRange (cs.set j v) (j + 1) vs := by simp [setRange]
@[go_sem ↓, go_sem] theorem indexAddrK_os {m L kk i} : indexAddrK h .none m (.os L) (.int kk i) K = indexC (h.con L) L m i K := propext Iff.rfl
@[go_sem ↓, go_sem] theorem indexC_arr {L m i sz xs} : indexC (.arr sz xs) L m i K = (sz = m ∧ 0 ≤ i ∧ i.toNat < xs.length ∧ K (.pt L sz i.toNat 0)) := propext Iff.rfl
@[go_sem ↓, go_sem] theorem lenK_os {L} : lenK h (.os L) K = lenC (h.con L) K := propext Iff.rfl
@[go_sem ↓, go_sem] theorem lenC_arr {sz xs} : lenC (.arr sz xs) K = K (.int .i64 xs.length) := propext Iff.rfl
@[go_sem] theorem cells_agg {cs} : (AV.agg cs).cells = cs := by simp [AV.cells]
@[go_sem] theorem cells_int {k n} : (AV.int k n).cells = [.int k n] := by simp [AV.cells]
@[go_sem] theorem cells_bool {b} : (AV.bool b).cells = [.bool b] := by simp [AV.cells]
@[go_sem] theorem cells_l {a b c} : (AV.l a b c).cells = [.l a b c] := by simp [AV.cells]
@[go_sem] theorem cells_os {L} : (AV.os L).cells = [.os L] := by simp [AV.cells]
@[go_sem] theorem cells_ip {c} : (AV.ip c).cells = [.ip c] := by simp [AV.cells]
@[go_sem] theorem isCell_int {k n} : (AV.int k n).isCell = true := by simp [AV.isCell]
@[go_sem] theorem isCell_bool {b} : (AV.bool b).isCell = true := by simp [AV.isCell]
@[go_sem] theorem isCell_l {a b c} : (AV.l a b c).isCell = true := by simp [AV.isCell]
@[go_sem] theorem isCell_os {L} : (AV.os L).isCell = true := by simp [AV.isCell]
@[go_sem] theorem isCell_ip {c} : (AV.ip c).isCell = true := by simp [AV.isCell]
@[go_sem ↓, go_sem] theorem boxK_eq {x} {K : List AV → Prop} : boxK x K = (x.cells.all AV.isCell = true ∧ K x.cells) := propext Iff.rfl
@[go_sem] theorem part_agg {n cs j} : part true n cs j = .agg ((cs.drop j).take n) := by simp [part]
@[go_sem] theorem part_one {n cs j} : part false n cs j = cs.getD j .undef := by simp [part]
@[go_sem ↓, go_sem] theorem fieldAddrK_ip {off cs} : fieldAddrK off (.ip cs) K = K (.ip (cs.drop off)) := propext Iff.rfl
@[go_sem ↓, go_sem] theorem fieldAddrK_pt {off L sz i j} : fieldAddrK off (.pt L sz i j) K = K (.pt L sz i (j + off)) := propext Iff.rfl
@[go_sem ↓, go_sem] theorem indexAddrK_l {m ex sz xs k i} : indexAddrK h .none m (.l ex sz xs) (.int k i) K = (sz = m ∧ 0 ≤ i ∧ ∃ hi : i.toNat < xs.length, K (.ip (xs[i.toNat]).cells)) := propext Iff.rfl
@[go_sem ↓, go_sem] theorem lenK_l {ex sz xs} : lenK h (.l ex sz xs) K = K (.int .i64 xs.length) := propext Iff.rfl
@[go_sem ↓, go_sem] theorem unK_not {b} : unK .not (.bool b) K = K (.bool (!b)) := propext Iff.rfl
section bin
variable {q : EqI} {k : IntKind} {a b : Int}
@[go_sem ↓, go_sem] theorem binK_add : binK q .add (.int k a) (.int k b) K = K (.int k (k.wrap (a + b))) := by simp [binK, intBin]
@[go_sem ↓, go_sem] theorem binK_sub : binK q .sub (.int k a) (.int k b) K = K (.int k (k.wrap (a - b))) := by simp [binK, intBin]
@[go_sem ↓, go_sem] theorem binK_eql : binK q .eql (.int k a) (.int k b) K = K (.bool (a == b)) := by simp [binK, intBin]
@[go_sem ↓, go_sem] theorem binK_neq : binK q .neq (.int k a) (.int k b) K = K (.bool (a != b)) := by simp [binK, intBin]
@[go_sem ↓, go_sem] theorem binK_lss : binK q .lss (.int k a) (.int k b) K = K (.bool (decide (a < b))) := by simp [binK, intBin]
@[go_sem ↓, go_sem] theorem binK_leq : binK q .leq (.int k a) (.int k b) K = K (.bool (decide (a ≤ b))) := by simp [binK, intBin]
@[go_sem ↓, go_sem] theorem binK_gtr : binK q .gtr (.int k a) (.int k b) K = K (.bool (decide (a > b))) := by simp [binK, intBin]
@[go_sem ↓, go_sem] theorem binK_geq : binK q .geq (.int k a) (.int k b) K = K (.bool (decide (a ≥ b))) := by simp [binK, intBin]
end bin
end ks

section code
variable {P : Program} {fid : Nat} {T : Nat → List Tg} {Q : Ex → St → Prop} {st : St}
@[go_sem ↓, go_sem] theorem awp_skip : awp P fid T .skip Q st = Q .normal st := by simp [awp]
@[go_sem ↓, go_sem] theorem awp_region {id l dr} : awp P fid T (.region id (List.toArray l) dr) Q st = opsR P fid (T id) (hidN 0) [] l st (Q .normal) := by
  unfold hidN; rw [← opsR_eq [] 0 rfl]; simp [awp]
@[go_sem ↓, go_sem] theorem awp_seq {a b} : awp P fid T (.seq a b) Q st = awp P fid T a (thenQ (awp P fid T b Q) Q) st := by simp [awp]
@[go_sem ↓, go_sem] theorem condK_b {t A B} : condK (.bool t) A B = ((t = true → A) ∧ (t = false → B)) := propext Iff.rfl
@[go_sem ↓, go_sem] theorem awp_cond {c a b} : awp P fid T (.cond c a b) Q st = condK (st.ev c) (awp P fid T a Q st) (awp P fid T b Q st) := by simp only [awp]
@[go_sem ↓, go_sem] theorem awp_block {id c} : awp P fid T (.block id c) Q st = awp P fid T c (blockQ id Q) st := by simp [awp]
@[go_sem ↓, go_sem] theorem awp_exit {id} : awp P fid T (.exit id) Q st = Q (.exit id) st := by simp [awp]
@[go_sem ↓, go_sem] theorem awp_label {l} : awp P fid T (.label l) Q st = Q .normal st := by simp [awp]
@[go_sem ↓, go_sem] theorem awp_scope {c} : awp P fid T (.scope c) Q st = awp P fid T c Q st := by simp [awp]
@[go_sem ↓, go_sem] theorem awp_ret : awp P fid T .ret Q st = Q .ret st := by simp [awp]
theorem awp_loop {c} : awp P fid T (.loop c) Q st = ∃ (I : St → Prop) (μ : St → Nat), I st ∧ ∀ s, I s → awp P fid T c (thenQ (fun s' => I s' ∧ μ s' < μ s) Q) s := by simp [awp]
@[go_sem ↓, go_sem] theorem thenQ_n {N} : thenQ N Q .normal st = N st := by simp [thenQ]
@[go_sem ↓, go_sem] theorem thenQ_e {N id} : thenQ N Q (.exit id) st = Q (.exit id) st := by simp [thenQ]
@[go_sem ↓, go_sem] theorem thenQ_r {N} : thenQ N Q .ret st = Q .ret st := by simp [thenQ]
@[go_sem ↓, go_sem] theorem blockQ_n {id} : blockQ id Q .normal st = Q .normal st := by simp [blockQ]
@[go_sem ↓, go_sem] theorem blockQ_e {id id'} : blockQ id Q (.exit id') st = if id' = id then Q .normal st else Q (.exit id') st := by simp [blockQ]
@[go_sem ↓, go_sem] theorem blockQ_r {id} : blockQ id Q .ret st = Q .ret st := by simp [blockQ]
@[go_sem] theorem sucN_eq {n} : sucN n = n + 1 := by simp [sucN]
@[go_sem] theorem hidN_eq {n} : hidN n = n := by simp [hidN]
@[go_sem ↓, go_sem] theorem opsR_nil {tg n done K} : opsR P fid tg n done [] st K = K st := by simp [opsR]
@[go_sem] theorem opsR_plain {n done d op ty ps af r K} : opsR P fid [] n done (⟨d, op, ty, ps, af, .none⟩ :: r) st K = opK P fid ⟨d, op, ty, ps, af, .none⟩ st (fun st' => opsR P fid [] (sucN n) (d :: done) r st' K) := by
  simp only [opsR, guardG, headT, tailT, opT, sucN]
@[go_sem] theorem opsR_tag {t tg n done d op ty ps af r K} : opsR P fid (t :: tg) n done (⟨d, op, ty, ps, af, .none⟩ :: r) st K = opT P fid t ⟨d, op, ty, ps, af, .none⟩ st (fun st' => opsR P fid tg (sucN n) (d :: done) r st' K) := by
  simp only [opsR, guardG, headT, tailT, sucN]
@[congr] theorem opsR_congr {tg tg' : List Tg} {n n' : Nat} {done : List (Option Nat)} {l : List Oper} {K : St → Prop} (e1 : tg = tg') (e2 : n = n') : opsR P fid tg n done l st K = opsR P fid tg' n' done l st K := by
  subst e1; subst e2; rfl
@[go_sem ↓, go_sem] theorem opT_plain {o K} : opT P fid .plain o st K = opK P fid o st K := by simp [opT]
@[go_sem ↓, go_sem] theorem opT_pure {d f args ats ty ps af g K} : opT P fid .pure ⟨d, .call ⟨.value f, args, ats⟩, ty, ps, af, g⟩ st K = pureK P (st.ev f) (args.toList.map st.ev) (fun v => K (st.put d v)) := by simp [opT, pureO]
@[go_sem ↓, go_sem] theorem pureK_fn {gg caps args} {K : AV → Prop} : pureK P (.fn (.func gg) caps) args K = (hasBody P gg = true ∧ PureX P gg (args ++ caps) K ⟨⟩) := propext Iff.rfl
@[go_sem ↓, go_sem] theorem opT_blk {d t a ty ps af g K} : opT P fid .blk ⟨d, .load t a, ty, ps, af, g⟩ st K = (blkK st.hp (st.ev a) ∧ opK P fid ⟨d, .load t a, ty, ps, af, g⟩ st K) := by simp [opT, blkO]
@[go_sem] theorem blkK_pt {h L a b c} : blkK h (.pt L a b c) = isBlk (h.con L) := by simp [blkK]
@[go_sem] theorem isBlk_blk {cs} : isBlk (.blk cs) = True := by simp [isBlk]
@[congr] theorem pureK_congr {f f' : AV} {args args' : List AV} {K : AV → Prop} (e : f = f') (e1 : args = args') : pureK P f args K = pureK P f' args' K := by subst e; subst e1; rfl
@[go_sem ↓, go_sem] theorem guardK_b {b want A B C} : guardK (.bool b) want A B C = ((b = want → A) ∧ (b = !want → B)) := propext Iff.rfl
@[go_sem ↓ high, go_sem high] theorem guardK_tt {A B C} : guardK (.bool true) true A B C = A := by simp [guardK]
@[go_sem ↓ high, go_sem high] theorem guardK_ff {A B C} : guardK (.bool false) false A B C = A := by simp [guardK]
@[go_sem ↓ high, go_sem high] theorem guardK_tf {A B C} : guardK (.bool true) false A B C = B := by simp [guardK]
@[go_sem ↓ high, go_sem high] theorem guardK_ft {A B C} : guardK (.bool false) true A B C = B := by simp [guardK]
@[go_sem ↓ high, go_sem high] theorem condK_t {A B} : condK (.bool true) A B = A := by simp [condK]
@[go_sem ↓ high, go_sem high] theorem condK_f {A B} : condK (.bool false) A B = B := by simp [condK]
@[go_sem ↓, go_sem] theorem guardK_u {want A B C} : guardK .un want A B C = C := propext Iff.rfl
@[go_sem ↓, go_sem] theorem guardO_some {d f} : guardO (some d) f = f d := propext Iff.rfl
@[go_sem] theorem opsR_guard {n done d op ty ps af j want r K} : opsR P fid [] n done (⟨d, op, ty, ps, af, some (j, want)⟩ :: r) st K =
    guardO (nthR done n j) (fun q => guardK (st.slots q) want
      (opK P fid ⟨d, op, ty, ps, af, some (j, want)⟩ (st.put (some q) (.bool want)) (fun st' => opsR P fid [] (sucN n) (d :: done) r st' K))
      (opsR P fid [] (sucN n) (d :: done) r ((st.put (some q) (.bool (!want))).put d .un) K)
      (opsR P fid [] (sucN n) (d :: done) r (st.put d .un) K)) := by
  simp only [opsR, guardG, headT, tailT, opT, sucN]
@[go_sem] theorem opsR_guardT {t tg n done d op ty ps af j want r K} : opsR P fid (t :: tg) n done (⟨d, op, ty, ps, af, some (j, want)⟩ :: r) st K =
    guardO (nthR done n j) (fun q => guardK (st.slots q) want
      (opT P fid t ⟨d, op, ty, ps, af, some (j, want)⟩ (st.put (some q) (.bool want)) (fun st' => opsR P fid tg (sucN n) (d :: done) r st' K))
      (opsR P fid tg (sucN n) (d :: done) r ((st.put (some q) (.bool (!want))).put d .un) K)
      (opsR P fid tg (sucN n) (d :: done) r (st.put d .un) K)) := by
  simp only [opsR, guardG, headT, tailT, sucN]
@[go_sem ↓, go_sem] theorem nthR_cons {d r n j} : nthR (d :: r) n j = selO (j + 1 == n) d (nthR r (n - 1) j) := by
  simp only [nthR, selO]
@[go_sem ↓, go_sem] theorem selO_t {v w} : selO true v w = v := by simp [selO]
@[go_sem ↓, go_sem] theorem selO_f {v w} : selO false v w = w := by simp [selO]
end code
@[go_sem] theorem alloc_con {h : Hp} {f s c L} : (h.alloc f s c).con L = if L = ⟨f, s, h.cnt f s⟩ then c else h.con L := by simp [Hp.alloc]
@[go_sem] theorem set_con {h : Hp} {M c L} : (h.set M c).con L = if L = M then (h.con M).keep c else h.con L := by simp [Hp.set]
@[go_sem] theorem keep_blk {cs c} : (Con.blk cs).keep c = c := by simp [Con.keep]
@[go_sem] theorem keep_arr {sz xs c} : (Con.arr sz xs).keep c = c := by simp [Con.keep]
@[go_sem] theorem keep_mp {es ck c} : (Con.mp es ck).keep c = c := by simp [Con.keep]
@[go_sem] theorem fresh_eq {h : Hp} {f s} : h.fresh f s = ⟨f, s, h.cnt f s⟩ := by simp [Hp.fresh]
@[go_sem] theorem alloc_cnt {h : Hp} {f s c g t} : (h.alloc f s c).cnt g t = if g = f ∧ t = s then h.cnt f s + 1 else h.cnt g t := by simp [Hp.alloc]
@[go_sem] theorem set_cnt {h : Hp} {M c g t} : (h.set M c).cnt g t = h.cnt g t := by simp [Hp.set]
@[go_sem] theorem enter_slots {args h i} : (enter args h).slots i = args.getD i .un := by simp [enter]
@[go_sem] theorem enter_hp {args h} : (enter args h).hp = h := by simp [enter]


section maps
variable {P : Program} {fid : Nat} {d : Option Nat} {ty : TypeId} {ps : String} {af : Array Edge} {g : Option (Nat × Bool)} {st : St} {K : St → Prop} {h : Hp}
@[go_sem ↓, go_sem] theorem opK_makeMap {t} : opK P fid ⟨d, .makeMap t .none, ty, ps, af, g⟩ st K = letH (hid st.hp) (fun H => K ((st.withHp (H.alloc fid (d.getD 0) (.mp [] 0))).put d (.mr (H.fresh fid (d.getD 0))))) := propext Iff.rfl
@[go_sem ↓, go_sem] theorem opK_lookup {t x ix ok} : opK P fid ⟨d, .lookup t x ix ok, ty, ps, af, g⟩ st K = lookupK P (tk P t) st.hp (st.ev x) (st.ev ix) ok (fun v => K (st.put d v)) := propext Iff.rfl
@[go_sem ↓, go_sem] theorem opK_mapEntry {t x ix} : opK P fid ⟨d, .mapEntry t x ix, ty, ps, af, g⟩ st K = mapEntryK P (tk P t) st.hp (st.ev x) (st.ev ix) (fun v h => K ((st.withHp h).put d v)) := propext Iff.rfl
@[go_sem ↓, go_sem] theorem opK_entryStore {t x s v} : opK P fid ⟨d, .entryStore t x s v, ty, ps, af, g⟩ st K = entryStoreK st.hp (st.ev x) (st.ev s) (st.ev v) (fun h => K ((st.withHp h).put d .un)) := propext Iff.rfl
@[go_sem ↓, go_sem] theorem lookupK_m {kt et x ix ok} {K : AV → Prop} : lookupK P (.map kt et) h x ix ok K = (tok P et = true ∧ keyK P kt ix (fun cs => lookM h x ok (tzero P et) cs K)) := propext Iff.rfl
@[go_sem ↓, go_sem] theorem keyK_a {kt cs} {K : List AV → Prop} : keyK P kt (.agg cs) K = (keyTy P kt = true ∧ cs.length = tsz P kt ∧ cs.all AV.isInt = true ∧ K cs) := propext Iff.rfl
@[go_sem ↓, go_sem] theorem lookM_mr {L ok z cs} {K : AV → Prop} : lookM h (.mr L) ok z cs K = lookC (h.con L) ok z cs K := propext Iff.rfl
@[go_sem ↓, go_sem] theorem lookC_mp {es ck ok z cs} {K : AV → Prop} : lookC (.mp es ck) ok z cs K = LookX cs es ok z K ⟨⟩ := propext Iff.rfl
@[go_sem ↓, go_sem] theorem mapEntryK_m {kt et x ix} {K : AV → Hp → Prop} : mapEntryK P (.map kt et) h x ix K = (tok P et = true ∧ keyK P kt ix (fun cs => entryM h x (tzero P et) cs K)) := propext Iff.rfl
@[go_sem ↓, go_sem] theorem entryM_mr {L z cs} {K : AV → Hp → Prop} : entryM h (.mr L) z cs K = entryC (h.con L) h L z cs K := propext Iff.rfl
@[go_sem ↓, go_sem] theorem entryC_mp {es ck L z cs} {K : AV → Hp → Prop} : entryC (.mp es ck) h L z cs K = EntryX h L es ck z cs K ⟨⟩ := propext Iff.rfl
@[go_sem ↓, go_sem] theorem entryStoreK_mr {L b v} {K : Hp → Prop} : entryStoreK h (.mr L) (.int .i64 b) v K = estoreC (h.con L) h L b v K := propext Iff.rfl
@[go_sem ↓, go_sem] theorem estoreC_mp {es ck L b v} {K : Hp → Prop} : estoreC (.mp es ck) h L b v K = StoreX h L es ck v b K ⟨⟩ := propext Iff.rfl
@[go_sem] theorem isInt_int {k n} : (AV.int k n).isInt = true := by simp [AV.isInt]
@[go_sem] theorem cells_mr {L} : (AV.mr L).cells = [.mr L] := by simp [AV.cells]
@[go_sem] theorem isCell_mr {L} : (AV.mr L).isCell = true := by simp [AV.isCell]
@[congr] theorem lookupK_congr {k k' : TK} {h' : Hp} {x x' ix ix' : AV} {ok : Bool} {K : AV → Prop} (e0 : k = k') (e1 : h = h') (e2 : x = x') (e3 : ix = ix') : lookupK P k h x ix ok K = lookupK P k' h' x' ix' ok K := by subst e0; subst e1; subst e2; subst e3; rfl
@[congr] theorem lookC_congr {c c' : Con} {z : AV} {ok : Bool} {cs : List AV} {K : AV → Prop} (e0 : c = c') : lookC c ok z cs K = lookC c' ok z cs K := by subst e0; rfl
@[congr] theorem mapEntryK_congr {k k' : TK} {h' : Hp} {x x' ix ix' : AV} {K : AV → Hp → Prop} (e0 : k = k') (e1 : h = h') (e2 : x = x') (e3 : ix = ix') : mapEntryK P k h x ix K = mapEntryK P k' h' x' ix' K := by subst e0; subst e1; subst e2; subst e3; rfl
@[congr] theorem entryC_congr {c c' : Con} {L : Lab} {z : AV} {cs : List AV} {K : AV → Hp → Prop} (e0 : c = c') : entryC c h L z cs K = entryC c' h L z cs K := by subst e0; rfl
@[congr] theorem entryStoreK_congr {h' : Hp} {x x' s s' v v' : AV} {K : Hp → Prop} (e0 : h = h') (e1 : x = x') (e2 : s = s') (e3 : v = v') : entryStoreK h x s v K = entryStoreK h' x' s' v' K := by subst e0; subst e1; subst e2; subst e3; rfl
@[congr] theorem estoreC_congr {c c' : Con} {L : Lab} {b : Int} {v : AV} {K : Hp → Prop} (e0 : c = c') : estoreC c h L b v K = estoreC c' h L b v K := by subst e0; rfl
end maps

section ends
variable {P : Program} {fn : Func} {r : AV} {h : Hp} {st : St}
@[go_sem ↓, go_sem] theorem endP_ret : endP P fn r h .ret st = (resK P fn.results.toList st (fun vs => oneOf vs = r) ∧ Keeps h st.hp) := by simp [endP]
@[go_sem ↓, go_sem] theorem endH_ret {K : AV → Hp → Prop} : endH P fn K .ret st = resK P fn.results.toList st (fun vs => K (oneOf vs) st.hp) := by simp [endH]
@[go_sem ↓, go_sem] theorem endH_normal {K : AV → Hp → Prop} : endH P fn K .normal st = resK P fn.results.toList st (fun vs => K (oneOf vs) st.hp) := by simp [endH]
@[go_sem ↓, go_sem] theorem resK_nil {K : List AV → Prop} : resK P [] st K = K [] := by simp [resK]
@[go_sem ↓, go_sem] theorem resK_tmp {t rs} {K : List AV → Prop} : resK P (.tmp t :: rs) st K = resK P rs st (fun vs => K (st.slots t :: vs)) := by simp [resK]
@[go_sem ↓, go_sem] theorem resK_cell {a t rs} {K : List AV → Prop} : resK P (.cell a t :: rs) st K = (tin P t = true ∧ loadK st.hp (tk P t).agg (tsz P t) (st.slots a) (fun v => resK P rs st (fun vs => K (v :: vs)))) := by simp [resK]
@[congr] theorem resK_congr {rs rs' : List ResultVar} {K : List AV → Prop} (e : rs = rs') : resK P rs st K = resK P rs' st K := by subst e; rfl
@[go_sem] theorem oneOf_one {v} : oneOf [v] = v := by simp [oneOf]
@[go_sem] theorem oneOf_two {u v} : oneOf [u, v] = .tup [u, v] := by simp [oneOf]
end ends

section more
variable {P : Program} {K : AV → Prop} {h : Hp} {q : EqI} {k : IntKind} {a b : Int} {op : BinOp}
@[go_sem ↓, go_sem] theorem fieldO_s {off n t cs} : fieldO P (some (off, n, t)) (.agg cs) K = (off + n ≤ cs.length ∧ K (part (tk P t).agg n cs off)) := propext Iff.rfl
section op1
variable {d : Option Nat} {ty : TypeId} {ps : String} {af : Array Edge} {g : Option (Nat × Bool)} {st : St} {K : St → Prop} {fid : Nat}
@[go_sem ↓, go_sem] theorem opK_field {s x f} : opK P fid ⟨d, .field s x f, ty, ps, af, g⟩ st K = fieldO P (fof P s f) (st.ev x) (fun v => K (st.put d v)) := propext Iff.rfl
@[go_sem ↓, go_sem] theorem opK_makeSlice {t n c} : opK P fid ⟨d, .makeSlice t n c, ty, ps, af, g⟩ st K = makeSliceO P (tk P t) st.hp fid (d.getD 0) (st.ev n) (st.ev c) (fun v h => K ((st.withHp h).put d v)) := propext Iff.rfl
end op1
@[go_sem ↓, go_sem] theorem makeSliceO_s {e f s n c} {K : AV → Hp → Prop} : makeSliceO P (.slice e) h f s n c K = (tok P e = true ∧ makeSliceK h f s (tsz P e) (tbytes P e) (tzero P e) n c K) := propext Iff.rfl
@[go_sem ↓, go_sem] theorem makeSliceK_i {f s sz bytes z} {K : AV → Hp → Prop} : makeSliceK h f s sz bytes z (.int .i64 a) (.int .i64 b) K = (a = b ∧ 0 ≤ a ∧ a * bytes ≤ 2 ^ 47 ∧ a < 2 ^ 62 ∧ z.cells.length = sz ∧ 0 < sz ∧
      K (.os (h.fresh f s)) (h.alloc f s (.arr sz (List.replicate a.toNat z)))) := propext Iff.rfl
@[go_sem] theorem cellsEq_cons {k a b r s} : cellsEq (.int k a :: r) (.int k b :: s) = (cellsEq r s).map (fun t => (a == b) && t) := by simp [cellsEq]
@[go_sem] theorem cellsEq_nil : cellsEq [] [] = some true := by simp [cellsEq]
end more

/- What simp looks at: what a rule hangs on, never what follows. -/
@[congr] theorem loadK_congr {h h' : Hp} {g g' : Bool} {n n' : Nat} {a a' : AV} {K : AV → Prop} (e0 : h = h') (e1 : g = g') (e2 : n = n') (e3 : a = a') : loadK h g n a K = loadK h' g' n' a' K := by
  subst e0; subst e1; subst e2; subst e3; rfl
@[congr] theorem loadC_congr {c c' : Con} {g g' : Bool} {n : Nat} {sz : Nat} {i : Nat} {j : Nat} {K : AV → Prop} (e0 : c = c') (e1 : g = g') : loadC c g n sz i j K = loadC c' g' n sz i j K := by
  subst e0; subst e1; rfl
@[congr] theorem storeP_congr {h h' : Hp} {n : Nat} {a a' : AV} {vs vs' : List AV} {K : Hp → Prop} (e0 : h = h') (e1 : a = a') (e2 : vs = vs') : storeP h n a vs K = storeP h' n a' vs' K := by
  subst e0; subst e1; subst e2; rfl
@[congr] theorem storeC_congr {c c' : Con} {h : Hp} {L : Lab} {n : Nat} {sz : Nat} {i : Nat} {j : Nat} {vs : List AV} {K : Hp → Prop} (e0 : c = c') : storeC c h L n sz i j vs K = storeC c' h L n sz i j vs K := by
  subst e0; rfl
@[congr] theorem pickK_congr {c c' : AV} {a a' : AV} {b b' : AV} {K : AV → Prop} (e0 : c = c') (e1 : a = a') (e2 : b = b') : pickK c a b K = pickK c' a' b' K := by
  subst e0; subst e1; subst e2; rfl
@[congr] theorem fieldAddrO_congr {o o' : Option (Nat × Nat × TypeId)} {a a' : AV} {K : AV → Prop} (e0 : o = o') (e1 : a = a') : fieldAddrO o a K = fieldAddrO o' a' K := by
  subst e0; subst e1; rfl
@[congr] theorem indexAddrO_congr {P : Program} {k k' : TK} {h h' : Hp} {x x' : AV} {ix ix' : AV} {K : AV → Prop} (e0 : k = k') (e1 : h = h') (e2 : x = x') (e3 : ix = ix') : indexAddrO P k h x ix K = indexAddrO P k' h' x' ix' K := by
  subst e0; subst e1; subst e2; subst e3; rfl
@[congr] theorem indexAddrK_congr {h h' : Hp} {o o' : Option Nat} {m m' : Nat} {x x' : AV} {ix ix' : AV} {K : AV → Prop} (e0 : h = h') (e1 : o = o') (e2 : m = m') (e3 : x = x') (e4 : ix = ix') : indexAddrK h o m x ix K = indexAddrK h' o' m' x' ix' K := by
  subst e0; subst e1; subst e2; subst e3; subst e4; rfl
@[congr] theorem indexC_congr {c c' : Con} {L : Lab} {m : Nat} {i : Int} {K : AV → Prop} (e0 : c = c') : indexC c L m i K = indexC c' L m i K := by
  subst e0; rfl
@[congr] theorem callV_congr {P : Program} {f f' : AV} {args args' : List AV} {h h' : Hp} {K : AV → Hp → Prop} (e0 : f = f') (e1 : args = args') (e2 : h = h') : callV P f args h K = callV P f' args' h' K := by
  subst e0; subst e1; subst e2; rfl
@[congr] theorem lenO_congr {k k' : TK} {h h' : Hp} {x x' : AV} {K : AV → Prop} (e0 : k = k') (e1 : h = h') (e2 : x = x') : lenO k h x K = lenO k' h' x' K := by
  subst e0; subst e1; subst e2; rfl
@[congr] theorem lenK_congr {h h' : Hp} {x x' : AV} {K : AV → Prop} (e0 : h = h') (e1 : x = x') : lenK h x K = lenK h' x' K := by
  subst e0; subst e1; rfl
@[congr] theorem lenC_congr {c c' : Con} {K : AV → Prop} (e0 : c = c') : lenC c K = lenC c' K := by
  subst e0; rfl
@[congr] theorem appendO_congr {P : Program} {k k' : TK} {u u' : TK} {h h' : Hp} {f : Nat} {s s' : Nat} {x x' : AV} {y y' : AV} {K : AV → Hp → Prop} (e0 : k = k') (e1 : u = u') (e2 : h = h') (e3 : s = s') (e4 : x = x') (e5 : y = y') : appendO P k u h f s x y K = appendO P k' u' h' f s' x' y' K := by
  subst e0; subst e1; subst e2; subst e3; subst e4; subst e5; rfl
@[congr] theorem appendY_congr {e e' : Option (Nat × List AV)} {sz sz' : Nat} {K : List AV → Prop} (e0 : e = e') (e1 : sz = sz') : appendY e sz K = appendY e' sz' K := by
  subst e0; subst e1; rfl
@[congr] theorem appendX_congr {h h' : Hp} {f : Nat} {s s' : Nat} {sz sz' : Nat} {bytes bytes' : Nat} {x x' : AV} {ys ys' : List AV} {K : AV → Hp → Prop} (e0 : h = h') (e1 : s = s') (e2 : sz = sz') (e3 : bytes = bytes') (e4 : x = x') (e5 : ys = ys') : appendX h f s sz bytes x ys K = appendX h' f s' sz' bytes' x' ys' K := by
  subst e0; subst e1; subst e2; subst e3; subst e4; subst e5; rfl
@[congr] theorem buildSliceK_congr {P : Program} {k k' : TK} {n : Nat} {ev : Operand → AV} {parts parts' : List (Nat × Operand)} {K : AV → Prop} (e0 : k = k') (e1 : parts = parts') : buildSliceK P k n ev parts K = buildSliceK P k' n ev parts' K := by
  subst e0; subst e1; rfl
@[congr] theorem buildK_congr {P : Program} {k k' : TK} {t : TypeId} {ev : Operand → AV} {parts parts' : List (Nat × Operand)} {K : AV → Prop} (e0 : k = k') (e1 : parts = parts') : buildK P k t ev parts K = buildK P k' t ev parts' K := by
  subst e0; subst e1; rfl
@[congr] theorem fillP_congr {p p' : Option (Nat × Nat)} {cs cs' : List AV} {x x' : AV} {K : List AV → Prop} (e0 : p = p') (e1 : cs = cs') (e2 : x = x') : fillP p cs x K = fillP p' cs' x' K := by
  subst e0; subst e1; subst e2; rfl
@[congr] theorem extractK_congr {x x' : AV} {i : Nat} {K : AV → Prop} (e0 : x = x') : extractK x i K = extractK x' i K := by
  subst e0; rfl
@[congr] theorem nilCheckK_congr {x x' : AV} {K : AV → Prop} (e0 : x = x') : nilCheckK x K = nilCheckK x' K := by
  subst e0; rfl
@[congr] theorem unK_congr {op : UnOp} {x x' : AV} {K : AV → Prop} (e0 : x = x') : unK op x K = unK op x' K := by
  subst e0; rfl
@[congr] theorem binK_congr {q : EqI} {op : BinOp} {x x' : AV} {y y' : AV} {K : AV → Prop} (e0 : x = x') (e1 : y = y') : binK q op x y K = binK q op x' y' K := by
  subst e0; subst e1; rfl
@[congr] theorem condK_congr {c c' : AV} {X : Prop} {Y : Prop} (e0 : c = c') : condK c X Y = condK c' X Y := by
  subst e0; rfl
@[congr] theorem guardK_congr {c c' : AV} {want : Bool} {X : Prop} {Y : Prop} {Z : Prop} (e0 : c = c') : guardK c want X Y Z = guardK c' want X Y Z := by
  subst e0; rfl
@[congr] theorem guardO_congr {s s' : Option Nat} {f : Nat → Prop} (e0 : s = s') : guardO s f = guardO s' f := by
  subst e0; rfl
@[congr] theorem makeSliceO_congr {P : Program} {k k' : TK} {h h' : Hp} {f : Nat} {s s' : Nat} {n n' : AV} {c c' : AV} {K : AV → Hp → Prop} (e0 : k = k') (e1 : h = h') (e2 : s = s') (e3 : n = n') (e4 : c = c') : makeSliceO P k h f s n c K = makeSliceO P k' h' f s' n' c' K := by
  subst e0; subst e1; subst e2; subst e3; subst e4; rfl
/- The lists' rules, none of them by definition: what is by definition is checked by unfolding, which takes time without bound. -/
section lists
variable {α β : Type} {a b d : α} {l r : List α} {n : Nat} {f : α → β} {p : α → Bool} {x y : Bool}
@[go_sem] theorem q_getD0 : (a :: l).getD 0 d = a := by simp
@[go_sem] theorem q_getDS : (a :: l).getD (n + 1) d = l.getD n d := by simp
@[go_sem] theorem q_lenC : (a :: l).length = l.length + 1 := by simp
@[go_sem] theorem q_lenN : ([] : List α).length = 0 := by simp
@[go_sem] theorem q_appN : [] ++ l = l := by simp
@[go_sem] theorem q_appC : (a :: l) ++ r = a :: (l ++ r) := by simp
@[go_sem] theorem q_drop0 : l.drop 0 = l := by simp
@[go_sem] theorem q_dropS : (a :: l).drop (n + 1) = l.drop n := by simp
@[go_sem] theorem q_take0 : l.take 0 = [] := by simp
@[go_sem] theorem q_takeS : (a :: l).take (n + 1) = a :: l.take n := by simp
@[go_sem] theorem q_takeN : ([] : List α).take n = [] := by simp
@[go_sem] theorem q_allC : (a :: l).all p = (p a && l.all p) := by simp
@[go_sem] theorem q_allN : ([] : List α).all p = true := by simp
@[go_sem] theorem q_mapC : (a :: l).map f = f a :: l.map f := by simp
@[go_sem] theorem q_mapN : ([] : List α).map f = [] := by simp
@[go_sem] theorem q_lenM : (l.map f).length = l.length := by simp
@[go_sem] theorem q_set0 : (a :: l).set 0 b = b :: l := by simp
@[go_sem] theorem q_setS : (a :: l).set (n + 1) b = a :: l.set n b := by simp
@[go_sem] theorem q_toL : (List.toArray l).toList = l := by simp
@[go_sem] theorem q_tt : (true && x) = x := by simp
@[go_sem] theorem q_at : (x && true) = x := by simp
@[go_sem] theorem q_nt : (!true) = false := by simp
@[go_sem] theorem q_nf : (!false) = true := by simp
@[go_sem] theorem q_gs : (some a).getD d = a := by simp
@[go_sem] theorem q_ms : (some a).map f = some (f a) := by simp
@[go_sem] theorem q_it : (if True then a else b) = a := by simp
@[go_sem] theorem q_if : (if False then a else b) = b := by simp
@[go_sem] theorem q_m1 {n : Nat} : n * 1 = n := by simp
@[go_sem] theorem q_0p {n : Nat} : 0 + n = n := by simp
@[go_sem] theorem q_p0 {n : Nat} : n + 0 = n := by simp
@[go_sem] theorem q_nat {n : Nat} : ((n : Int)).toNat = n := by simp
@[go_sem] theorem q_em {i : Nat} (h : i < (l.map f).length) : (l.map f)[i] = f (l[i]'(by simpa using h)) := by simp
end lists

attribute [go_sem] true_and and_true eq_self and_self forall_const exists_const Bool.false_eq_true Bool.true_eq_false false_implies true_implies implies_true and_false false_and
  exists_prop Lab.mk.injEq Option.some.injEq reduceCtorEq

end Go.T
/- Plain: the notes of a history, the reference's answer and the ghost's own way to it. No program in sight. -/
namespace Go.Gh
set_option linter.unusedSimpArgs false

structure Note where
  kind : Int
  obj : Int
  node : Int
  num : Int
  to : Int
  next : Int
  deriving DecidableEq

def isMade (obj node : Int) (n : Note) : Bool := n.kind == 1 && n.obj == obj && n.node == node
def madeN (ns : List Note) (obj node : Int) : Nat := (ns.filter (isMade obj node)).length
def thereB (home : Int) (ns : List Note) (obj node num : Int) : Bool := (decide (1 ≤ num) && decide (num ≤ madeN ns obj node)) || (num == 0 && node == home)
/-- Where an object is, and whether it is freed, behind one more note. -/
def atStep (obj : Int) (s : Int × Int × Bool) (x : Note) : Int × Int × Bool :=
  if x.obj = obj ∧ x.kind = 4 then (x.node, x.num, false) else if x.obj = obj ∧ x.kind = 3 then (s.1, s.2.1, true) else s
def atOf (home obj : Int) (ns : List Note) : Int × Int × Bool := ns.foldl (atStep obj) (home, 0, true)
def clash (n x : Note) : Bool := x.kind == 2 && x.obj == n.obj && ((x.node == n.node && x.num == n.num) || (x.to == n.to && x.next == n.next))
def isNext (obj node num : Int) (x : Note) : Bool := x.kind == 2 && x.obj == obj && x.node == node && x.num == num
def canB (home : Int) (ns : List Note) (n : Note) : Bool :=
  if n.kind ≠ 2 ∧ (n.to ≠ 0 ∨ n.next ≠ 0) then false
  else if n.kind = 1 then decide (0 ≤ n.node) && decide (n.node < 32) && n.num == madeN ns n.obj n.node + 1
  else if n.kind = 2 then !ns.any (clash n) && n.next != 0 && thereB home ns n.obj n.node n.num && thereB home ns n.obj n.to n.next
  else if n.kind = 3 then !(atOf home n.obj ns).2.2 && n.node == (atOf home n.obj ns).1 && n.num == (atOf home n.obj ns).2.1
  else if n.kind = 4 then (match ns.find? (isNext n.obj (atOf home n.obj ns).1 (atOf home n.obj ns).2.1) with
    | some x => (atOf home n.obj ns).2.2 && x.to == n.node && x.next == n.num
    | none => false)
  else false

/-- The reference's Check. -/
def checkB (homes : List Int) (ns : List Note) (n : Note) : Bool :=
  decide (0 ≤ n.obj) && decide (n.obj < homes.length) && canB (homes.getD n.obj.toNat 0) ns n

/-- What is known of an object. -/
structure Ob where
  made : List Int
  next : List ((Int × Int) × (Int × Int))
  heirs : List ((Int × Int) × (Int × Int))
  node : Int
  num : Int
  freed : Bool
  home : Int

/- Check, aas it is answered. -/
def badHomes (homes : List Int) : Bool := decide (8 < homes.length) || homes.any (fun h => decide (h < 0) || decide (32 ≤ h))
def goodAt (homes : List Int) (ns : List Note) (i : Nat) : Bool := match ns[i]? with
  | some n => checkB homes (ns.take i) n
  | none => true
def checkR (homes : List Int) (ns : List Note) : Int × Int :=
  if badHomes homes then (0, 1) else match (List.range ns.length).find? (fun i => !goodAt homes ns i) with
    | some i => (i, 25)
    | none => (0, 0)
/- Queue. -/
def idxP {α : Type} (p : α → Bool) (l : List α) : Int := match l.findIdx? p with
  | some i => i
  | none => -1
theorem idxP_at {α : Type} (p : α → Bool) (l : List α) (i : Nat) (h : i < l.length) (hp : p l[i] = true) (hn : ∀ x ∈ l.take i, p x = false) : idxP p l = i := by
  unfold idxP
  have : l.findIdx? p = some i := by
    rw [List.findIdx?_eq_some_iff_getElem]
    refine ⟨h, hp, fun j hj => ?_⟩
    have := hn l[j] (by rw [List.mem_take_iff_getElem]; exact ⟨j, by omega, rfl⟩)
    simp [this]
  rw [this]
theorem idxP_none {α : Type} (p : α → Bool) (l : List α) (hn : ∀ x ∈ l, p x = false) : idxP p l = -1 := by
  unfold idxP
  have : l.findIdx? p = none := by
    rw [List.findIdx?_eq_none_iff]; exact hn
  rw [this]
theorem idxP_cases {α : Type} (p : α → Bool) (l : List α) : (idxP p l = -1 ∧ l.find? p = none) ∨ ∃ i, ∃ h : i < l.length, idxP p l = i ∧ l.find? p = some l[i] := by
  unfold idxP
  cases hx : l.findIdx? p with
  | none =>
    left
    refine ⟨rfl, ?_⟩
    rw [List.findIdx?_eq_none_iff] at hx
    rw [List.find?_eq_none]
    intro x hxx; simp [hx x hxx]
  | some i =>
    right
    rw [List.findIdx?_eq_some_iff_getElem] at hx
    obtain ⟨h, h1, h2⟩ := hx
    refine ⟨i, h, rfl, ?_⟩
    rw [List.find?_eq_some_iff_getElem]
    exact ⟨h1, i, h, rfl, fun j hj => by simpa using h2 j hj⟩
end Go.Gh
/- Maps of pairs of ints to pairs of ints: what is found, what is laid in; the frame of labels. -/
namespace Go.T
open Go Go.Gh

def pairA (k : Int × Int) : AV := .agg [.int .i64 k.1, .int .i64 k.2]
def mapE : List ((Int × Int) × (Int × Int)) → Nat → List (AV × AV × Nat)
  | [], _ => []
  | e :: r, i => (pairA e.1, pairA e.2, i) :: mapE r (i + 1)
theorem keyEq_pair (a b : Int) (k : Int × Int) : keyEq [.int .i64 a, .int .i64 b] (pairA k) = some (decide (k = (a, b))) := by
  obtain ⟨c, d⟩ := k
  simp only [keyEq, pairA, cellsEq_cons, cellsEq_nil, Option.map_some]
  simp only [Prod.mk.injEq, Option.some.injEq, Bool.and_true]
  by_cases h1 : a = c
  · by_cases h2 : b = d
    · simp [h1, h2]
    · have h2' : ¬ d = b := fun e => h2 e.symm
      simp [h1, h2, h2']
  · have h1' : ¬ c = a := fun e => h1 e.symm
    simp [h1, h1']
/-- What was found outside these labels is aas it was. -/
def Fr (S : List Lab) (h H : Hp) : Prop := ∀ M, M ∈ S ∨ h.con M = .none ∨ H.con M = h.con M
theorem Fr.new {S : List Lab} {h H : Hp} (k : Fr S h H) (f s : Nat) : (⟨f, s, H.cnt f s⟩ : Lab) ∈ S ∨ h.con ⟨f, s, H.cnt f s⟩ = .none := by
  rcases k ⟨f, s, H.cnt f s⟩ with h2 | h2 | h2
  · exact .inl h2
  · exact .inr h2
  · right; rw [← h2]; exact H.ok _ (by simp)
theorem Fr.keeps {S : List Lab} {g h H : Hp} (k : Fr S h H) (hk : Keeps g h) (hS : ∀ L ∈ S, g.con L = .none) : Keeps g H := by
  intro M
  rcases hk M with h1 | h1
  · exact .inl h1
  · rcases k M with h2 | h2 | h2
    · exact .inl (hS M h2)
    · left; rw [← h1]; exact h2
    · right; rw [h2, h1]
theorem CallX.at {P : Program} {f : FuncId} {args : List AV} {h : Hp} {K : AV → Hp → Prop} {u : Tok K} {r : AV} (hc : CallK P f args h (fun r' h' => r' = r ∧ h' = h)) (hk : K r h) : CallX P f args h K u :=
  CallX.of (hc.mono fun _ _ ⟨h1, h2⟩ => by rw [h1, h2]; exact hk)
end Go.T
/- Loops that count. -/
namespace Go.T
open Go
def cntM (ti n : Nat) (s : St) : Nat := match s.slots ti with | .int _ i => ((n : Int) - i).toNat | _ => 0
theorem awp_count {P : Program} {fid : Nat} {T : Nat → List Tg} {c : Code} {Q : Ex → St → Prop} {st : St} (ti tn : Nat) (n : Nat) (hb : n ≤ 9223372036854775807) (J : Nat → St → Prop)
    (h0 : st.slots ti = .int .i64 0) (h1 : st.slots tn = .int .i64 n) (hJ : J 0 st)
    (step : ∀ (i : Nat) (s : St), i < n → decide ((i : Int) < n) = true → IntKind.i64.wrap ((i : Int) + 1) = ((i + 1 : Nat) : Int) → s.slots ti = .int .i64 i → s.slots tn = .int .i64 n → J i s →
      awp P fid T c (thenQ (fun s' => s'.slots ti = .int .i64 ((i + 1 : Nat) : Int) ∧ s'.slots tn = .int .i64 n ∧ J (i + 1) s') Q) s)
    (last : ∀ s : St, decide ((n : Int) < n) = false → s.slots ti = .int .i64 n → s.slots tn = .int .i64 n → J n s → awp P fid T c (thenQ (fun _ => False) Q) s) :
    awp P fid T (.loop c) Q st := by
  have hm : ∀ (s : St) (i : Nat), s.slots ti = .int .i64 i → cntM ti n s = n - i := by
    intro s i h; unfold cntM; rw [h]; show ((n : Int) - i).toNat = n - i; omega
  simp only [awp]
  refine ⟨fun s => ∃ i : Nat, i ≤ n ∧ s.slots ti = .int .i64 i ∧ s.slots tn = .int .i64 n ∧ J i s, cntM ti n, ⟨0, Nat.zero_le _, by simpa using h0, h1, hJ⟩, ?_⟩
  rintro s ⟨i, hi, g0, g1, gJ⟩
  by_cases hlt : i < n
  · refine awp_mono (step i s hlt (by simpa using hlt) (by rw [IntWalk.i64_in _ (by omega)]; simp) g0 g1 gJ) fun x s' hs => ?_
    cases x with
    | normal =>
      obtain ⟨k0, k1, kJ⟩ := hs
      exact ⟨⟨i + 1, hlt, k0, k1, kJ⟩, by rw [hm s' _ k0, hm s _ g0]; omega⟩
    | exit id => exact hs
    | ret => exact hs
  · have : i = n := by omega
    subst this
    refine awp_mono (last s (by simp) g0 g1 gJ) fun x s' hs => ?_
    cases x with
    | normal => exact hs.elim
    | exit id => exact hs
    | ret => exact hs
end Go.T
/- Plain laws of trees. -/
namespace Go.Gh
theorem find_range_at {p : Nat → Bool} {n i : Nat} (hi : i < n) (hp : p i = true) (hn : ∀ u, u < i → p u = false) : (List.range n).find? p = some i := by
  rw [List.find?_range_eq_some]
  exact ⟨hp, by simpa using hi, fun j hj => by simp [hn j hj]⟩
theorem find_range_none {p : Nat → Bool} {n : Nat} (hn : ∀ u, u < n → p u = false) : (List.range n).find? p = none := by
  rw [List.find?_range_eq_none]
  intro i hi; simp [hn i hi]
def faultB (ps : List Int) (v : Nat) : Bool :=
  decide (ps.getD v 0 < -1) || decide (ps.getD v 0 ≥ ps.length) || ps.getD v 0 == (v : Int) || (ps.getD v 0 == -1 && (ps.take v).contains (-1))
def climb (ps : List Int) : Nat → Int → Bool
  | 0, _ => false
  | k + 1, v => if ps.getD v.toNat 0 = -1 then true else climb ps k (ps.getD v.toNat 0)
def treeR (ps : List Int) : Int × Int :=
  if ps.length = 0 then (0, 1) else if 32 < ps.length then (0, 3) else
  match (List.range ps.length).find? (faultB ps) with
  | some v => (v, 10)
  | none => match (List.range ps.length).find? (fun v : Nat => !climb ps ps.length v) with
    | some v => (v, 10)
    | none => (0, 0)
theorem in_tree {ps : List Int} {v : Nat} (hv : v < ps.length) (h : faultB ps v = false) : -1 ≤ ps[v] ∧ ps[v] < ps.length ∧ ps[v] ≠ v := by
  have e : ps.getD v 0 = ps[v] := by rw [List.getD_eq_getElem?_getD, List.getElem?_eq_getElem hv]; rfl
  simp only [faultB, e, Bool.or_eq_false_iff, decide_eq_false_iff_not, beq_eq_false_iff_ne] at h
  exact ⟨by omega, by omega, h.1.2⟩
/-- A node's neighbours out of the first i rows, in the order in which they are found. -/
def nearL (ps : List Int) (v : Nat) : Nat → List Int
  | 0 => []
  | i + 1 => if 0 ≤ ps.getD i 0 then (if i = v then nearL ps v i ++ [ps.getD i 0] else if ps.getD i 0 = v then nearL ps v i ++ [(i : Int)] else nearL ps v i) else nearL ps v i
def sortI (l : List Int) : List Int := l.mergeSort (fun x y => decide (x ≤ y))
def nears (ps : List Int) : List (List Int) := (List.range ps.length).map fun v => sortI (nearL ps v ps.length)
theorem nearL_len (ps : List Int) (v : Nat) : ∀ i, (nearL ps v i).length ≤ i := by
  intro i
  induction i with
  | zero => simp [nearL]
  | succ i ih => unfold nearL; split <;> (try split) <;> (try split) <;> (try simp) <;> omega
end Go.Gh
/- Plain laws of states: messages, sides, chains. -/
namespace Go.Gh
structure Msg where
  kind : Int
  obj : Int
  node : Int
  num : Int
  where' : Int
structure Cel where
  num : Int
  state : Int
  node : Int
  next : Int
structure Own where
  arrow : Int
  made : Int
  cells : List Cel
structure Sid where
  peer : Int
  base : Int
  out : List Msg
  seen : Int
structure Ask where
  obj : Int
  num : Int
structure Found where
  obj : Int
  num : Int
  where' : Int
structure Nst where
  me : Int
  objs : List Own
  edges : List Sid
  asked : Int
  asks : List Ask
  got : List Found
def withinB (x lo hi : Int) : Bool := decide (lo ≤ x) && decide (x ≤ hi)
def validB (m : Msg) : Bool := withinB m.kind 1 4 && withinB m.obj 0 7 && withinB m.node 0 31 && withinB m.num 1 1099511627776 && (if m.kind = 4 then withinB m.where' 0 31 else decide (m.where' = 0))
def goodE (e : Sid) : Bool := withinB e.peer 0 31 && withinB e.base 0 1099511627776 && withinB e.seen 0 1099511627776 && decide (e.out.length ≤ 1024) && decide (e.base + e.out.length ≤ 1099511627776) && e.out.all validB
theorem any_not {α : Type} (p : α → Bool) (l : List α) : (!l.any fun x => !p x) = l.all p := by
  induction l with
  | nil => rfl
  | cons x r ih => simp only [List.any_cons, List.all_cons, ← ih, Bool.not_or, Bool.not_not]
def bareB (c : Cel) : Bool := c.node == -1 && c.next == 0
def ledB (c : Cel) : Bool := withinB c.node 0 31 && withinB c.next 1 1099511627776
def busyB (c : Cel) : Bool := c.state == 1 || c.state == 2
def openN (cs : List Cel) : Nat := cs.countP busyB
theorem openN_le (cs : List Cel) : openN cs ≤ cs.length := List.countP_le_length
theorem openN_step (cs : List Cel) (i : Nat) (h : i < cs.length) : openN (cs.take (i + 1)) = if busyB cs[i] then openN (cs.take i) + 1 else openN (cs.take i) := by
  rw [List.take_succ_eq_append_getElem h]
  unfold openN
  rw [List.countP_append, List.countP_singleton]
  split <;> rfl
/-- What is asked of the cell at place i. -/
def cellOk (cs : List Cel) (me : Int) (sink : Bool) (i : Nat) (c : Cel) : Bool :=
  withinB c.num 0 1099511627776 && (i == 0 || decide ((cs[i - 1]?.map Cel.num).getD 0 < c.num)) && withinB c.state 1 3 && (i == 0 || c.state == 1) && (c.num != 0 || c.state == 3) &&
  (if sink && i + 1 == cs.length then bareB c else c.state != 3 && ledB c && (c.node != me || (i + 1 != cs.length && (cs[i + 1]?.map Cel.num).getD 0 == c.next)))
def cellAt (cs : List Cel) (me : Int) (sink : Bool) (i : Nat) : Bool := match cs[i]? with
  | some c => cellOk cs me sink i c
  | none => true
def goodC (cs : List Cel) (me : Int) (sink : Bool) : Bool := !(sink && cs.isEmpty) && (List.range cs.length).all (cellAt cs me sink)
theorem idxP_any {α : Type} (p : α → Bool) (l : List α) : decide (idxP p l ≥ 0) = l.any p := by
  rcases idxP_cases p l with ⟨h1, h2⟩ | ⟨i, hi, h1, h2⟩
  · rw [h1]
    symm
    simp only [List.find?_eq_none] at h2
    simp only [ge_iff_le, show ¬ ((0 : Int) ≤ -1) by omega, decide_false, List.any_eq_false]
    exact h2
  · rw [h1]
    have : l.any p = true := List.any_eq_true.2 ⟨l[i], List.getElem_mem hi, List.find?_some h2⟩
    simp [this]
end Go.Gh
