/- A small logic of programs over plain values, shown sound for the given machine: part 3. -/
import Derived.Test.YtmajndgdfmnchaaT2
import Derived.IntWalk
import Derived.ChangeArms
import Derived.OpenShut
import Derived.Below
/- A round of a range over a function, out of the abstract run of its body. -/
namespace Go.T
open Go

def putS : List Nat → List AV → St → St
  | p :: ps, a :: as, st => putS ps as (st.put (some p) a)
  | _, _, st => st
/-- The assignment to the loop's left sides ends as it begins. -/
def asgQ (N : St → Prop) : Ex → St → Prop
  | .normal, s => N s
  | _, _ => False
/-- A round's end. -/
def roundQ (L : Lab) (slots : Nat → AV) (n : Nat) (ps : List Nat) (asg body : Code) (K : AV → Hp → Prop) : Ex → St → Prop
  | .normal, s => K (.bool true) (s.hp.back L (.lp slots n ps asg body .ready))
  | .exit id, s => K (.bool false) (s.hp.back L (.lp slots n ps asg body (.done (.exit id))))
  | .ret, s => K (.bool false) (s.hp.back L (.lp slots n ps asg body (.done .ret)))

theorem putS_rel {w : World} {B : Nat → Prop} {e : Env} {n : Nat} : ∀ (ps : List Nat) (as : List AV) (vs : List Value) (st : St) (tmps : Array Value), as.length = ps.length → vs.length = ps.length → (∀ p ∈ ps, p < n) →
    tmps.size = n → (∀ i, R w B (e.E st.hp) (st.slots i) (tmps.getD i undef)) → (∀ i, i < as.length → R w B (e.E st.hp) (as.getD i .un) (vs.getD i undef)) →
    ((ps.zip vs).foldl (fun t p => t.setIfInBounds p.1 p.2) tmps).size = n ∧ (putS ps as st).hp = st.hp ∧ ∀ i, R w B (e.E st.hp) ((putS ps as st).slots i) (((ps.zip vs).foldl (fun t p => t.setIfInBounds p.1 p.2) tmps).getD i undef) := by
  intro ps
  induction ps with
  | nil =>
    intro as vs st tmps h1 h2 _ h3 h4 _
    have : as = [] := List.length_eq_zero_iff.1 h1
    subst this
    exact ⟨by simpa using h3, rfl, by simpa [putS] using h4⟩
  | cons p ps ih =>
    intro as vs st tmps h1 h2 hp h3 h4 h5
    cases as with
    | nil => simp at h1
    | cons a as =>
      cases vs with
      | nil => simp at h2
      | cons v vs =>
        have hpn := hp p (by simp)
        have h0 := h5 0 (by simp)
        simp only [List.getD_cons_zero] at h0
        obtain ⟨g1, g2, g3⟩ := ih as vs (st.put (some p) a) (tmps.setIfInBounds p v) (by simpa using h1) (by simpa using h2) (fun q hq => hp q (by simp [hq])) (by simpa using h3) (fun i => by
          rw [put_slots, put_hp]
          by_cases hi : i = p
          · subst hi
            rw [if_pos rfl]
            have : (tmps.setIfInBounds i v).getD i undef = v := by
              simp only [Array.getD_eq_getD_getElem?]
              rw [Array.getElem?_setIfInBounds_self_of_lt (by omega)]; rfl
            rw [this]; exact h0
          · rw [if_neg hi]
            have : (tmps.setIfInBounds p v).getD i undef = tmps.getD i undef := by
              simp only [Array.getD_eq_getD_getElem?]
              rw [Array.getElem?_setIfInBounds_ne (Ne.symm hi)]
            rw [this]; exact h4 i) (fun i hi => by
          rw [put_hp]
          have := h5 (i + 1) (by simpa using hi)
          simpa using this)
        rw [put_hp] at g2 g3
        exact ⟨by simpa using g1, by simpa [putS] using g2, by simpa [putS] using g3⟩

section
variable {P : Program}
theorem YieldK.of_awp (hm : P.follows .mixedOrders = true) (fid : Nat) (T : Nat → List Tg) {L : Lab} {args : List AV} {h : Hp} {K : AV → Hp → Prop} {slots : Nat → AV} {n : Nat} {ps : List Nat} {asg bd : Code}
    (hcon : h.con L = .lp slots n ps asg bd .ready) (hn : ntm P fid = n) (hps : ∀ p ∈ ps, p < n) (hok1 : okCode n T asg = true) (hok2 : okCode n T bd = true) (hlen : args.length = ps.length)
    (hk : awp P fid T asg (asgQ (awp P fid T bd (roundQ L slots n ps asg bd K))) (putS ps args ⟨slots, h.set L .none⟩)) : YieldK P L args h K := by
  intro w B e vs hh hLk hs hargs
  have hL : e.has h L := ⟨hLk, by rw [hcon]; trivial⟩
  have hc := hh.con L hLk
  rw [hcon] at hc
  obtain ⟨hB, r, hrow, hpar, hasg, hbody, hsz, hslots, hst, hpend⟩ := hc
  have hlt : (e.β L).block < w.heap.size := (hh.lt hL).1
  refine ⟨r.fn, _, r.assign, r.body, run_yield hrow (by rw [hs, hlen, ← hpar]; simp), fun ro m => ?_⟩
  rw [hasg, hbody]
  -- the round begins: the record is no one's
  have hx1 : Ext w B e h w B e (h.set L .none) := Ext.drop (fun M => dropc M) rfl
  have hh1 : HRel w B e (h.set L .none) := HRel.drop hh (fun M => dropc M) rfl
  have free1 : ∀ M, e.has (h.set L .none) M → (e.β M).block ≠ (e.β L).block := fun M hM hE => (has_drop hM).1 (hh.inj _ _ (has_drop hM).2 hL hE)
  have hfold : (r.params.zip vs).foldl (fun tmps x => tmps.setIfInBounds x.1 x.2) r.tmps = (ps.zip vs.toList).foldl (fun t p => t.setIfInBounds p.1 p.2) r.tmps := by
    rw [← Array.foldl_toList, Array.toList_zip, hpar]
  obtain ⟨p1, p2, p3⟩ := putS_rel (w := w) (B := B) (e := e) (n := n) ps args vs.toList ⟨slots, h.set L .none⟩ r.tmps hlen (by rw [← hlen, ← hs]; simp) hps hsz (fun i => (hslots i).ext hh hx1) (fun i hi => by
    have := (hargs i hi).ext hh hx1
    simpa using this)
  have hrel : Rel w B e n (putS ps args ⟨slots, h.set L .none⟩) { tmps := (r.params.zip vs).foldl (fun tmps x => tmps.setIfInBounds x.1 x.2) r.tmps, defers := [] } := by
    rw [hfold]
    exact ⟨by rw [p2]; exact hh1, fun i => by rw [p2]; exact p3 i, p1⟩
  have main := awp_sound (w0 := w) (B0 := B) (e0 := e) (h0 := h.set L .none) (n := n) hm fid hn T (some (e.β L).block) w.heap.size (Nat.le_refl _) (fun l0 hl0 => by
    simp only [Option.some.injEq] at hl0; subst hl0; exact ⟨r, hrow, hlt, free1⟩) asg _ _ _ w B e m hok1 hrel (by rw [p2]; exact Ext.refl _ _ _ _) (DefOK.nil _ _ _ _ _) hk
  refine roundIn_of_wpIn (F := wr ro) (n := m) (l := (e.β L).block) trivial (wpIn_mono main ?_)
  rintro ex a1 w1 ⟨x', hx', st1, B1, e1, g1, g2, g3, g4⟩
  have key : awp P fid T bd (roundQ L slots n ps asg bd K) st1 → ∃ w₂, (Instr.beginRound (e.β L).block).run P w1 = .ok () w₂ ∧ bd.wpIn ((wr ro).inRound (e.β L).block) m P (roundPost P (e.β L).block (fun en w' => ∃ v r h' B' e', en = .returned v ∧ HRel w' B' e' h' ∧ Ext w B e h w' B' e' h' ∧ R w' B' (e'.E h') r v ∧ K r h')) a1 w₂ := by
    intro hbd
    obtain ⟨s1, s2, s3⟩ := unowned_ext g3 hlt free1
    have nb1 : ¬ B1 (e.β L).block := notB_ext g3 hlt free1 hB
    refine ⟨w1.putObj (e.β L).block (.loop { r with state := .busy }), run_beginRound (s2.trans hrow) hst, ?_⟩
    have hother1 : ∀ b, (B1 b ∨ ∃ M, e1.has st1.hp M ∧ (e1.β M).block = b) → (w1.putObj (e.β L).block (.loop { r with state := .busy })).heap[b]? = w1.heap[b]? := by
      rintro b (hb | ⟨M, hM, rfl⟩)
      · exact World.putObj_heap_other (fun hE => nb1 (hE ▸ hb))
      · exact World.putObj_heap_other (s3 M hM)
    have hh2 : HRel (w1.putObj (e.β L).block (.loop { r with state := .busy })) B1 e1 st1.hp := g2.hp.free (by simp) hother1
    have hrel2 : Rel (w1.putObj (e.β L).block (.loop { r with state := .busy })) B1 e1 n st1 a1 := ⟨hh2, fun i => (g2.slots i).mono (fun b hb => hother1 b (.inl hb)) (fun _ h => h) (fun _ _ h => h), g2.size⟩
    have hrow2 : (w1.putObj (e.β L).block (.loop { r with state := .busy })).heap[(e.β L).block]? = some (.loop { r with state := .busy }) := World.putObj_heap_same s1
    have hdef2 : DefOK w.heap.size (w1.putObj (e.β L).block (.loop { r with state := .busy })) B1 e1 st1.hp a1.defers := by
      obtain ⟨Ds, d1, d2, d3⟩ := g4
      refine ⟨Ds, d1, d2, fun D hD => ?_⟩
      obtain ⟨y1, y2, y3, y4, y5⟩ := d3 D hD
      have hne : D ≠ (e.β L).block := fun hE => by
        rw [hE, s2, hrow] at y4; simp at y4
      exact ⟨y1, y2, by simpa using y3, by rw [World.putObj_heap_other hne]; exact y4, y5⟩
    have main2 := awp_sound (w0 := w1.putObj (e.β L).block (.loop { r with state := .busy })) (B0 := B1) (e0 := e1) (h0 := st1.hp) (n := n) hm fid hn T (some (e.β L).block) w.heap.size (by simpa using g3.size) (fun l0 hl0 => by
      simp only [Option.some.injEq] at hl0; subst hl0; exact ⟨_, hrow2, by simpa using s1, s3⟩) bd _ _ _ _ B1 e1 m hok2 hrel2 (Ext.refl _ _ _ _) hdef2 hbd
    refine wpIn_mono main2 ?_
    rintro ex2 a3 w3 ⟨x2, hx2, st3, B3, e3, k1, k2, k3, k4⟩
    obtain ⟨t1, t2, t3⟩ := unowned_ext k3 (by simpa using s1) s3
    have nb3 : ¬ B3 (e.β L).block := notB_ext k3 (by simpa using s1) s3 nb1
    have hrow3 : w3.heap[(e.β L).block]? = some (.loop { r with state := .busy }) := t2.trans hrow2
    have hk3 : L.k < st3.hp.cnt L.f L.s := Nat.lt_of_lt_of_le (Nat.lt_of_lt_of_le hLk (g3.cnt _ _)) (k3.cnt _ _)
    have hk1 : L.k < st1.hp.cnt L.f L.s := Nat.lt_of_lt_of_le hLk (g3.cnt _ _)
    have hβ3 : e3.β L = e.β L := by rw [(k3.env L hk1).1]; exact (g3.env L hLk).1
    -- the record is taken up again
    have finish : ∀ (jump : Option Code) (s' : LpS), (match s' with | .ready => jump = none | .done x => jump = some (exC x)) → ∀ b, b = jump.isNone → K (.bool b) (st3.hp.back L (.lp slots n ps asg bd s')) →
        ∃ v w', (Instr.endRound (e.β L).block jump).run P w3 = .ok v w' ∧ (fun en w' => ∃ v r h' B' e', en = .returned v ∧ HRel w' B' e' h' ∧ Ext w B e h w' B' e' h' ∧ R w' B' (e'.E h') r v ∧ K r h') (Ending.returned v) w' := by
      intro jump s' hj b hb hK
      obtain ⟨o4, ho4⟩ : ∃ o : Loop, o = { r with state := if jump.isNone then .ready else .done, pending := jump } := ⟨_, rfl⟩
      have hc4 : ∀ M, (st3.hp.back L (.lp slots n ps asg bd s')).con M = if M = L then .lp slots n ps asg bd s' else st3.hp.con M := fun M => back_con hk3 M
      have hcnt4 : (st3.hp.back L (.lp slots n ps asg bd s')).cnt = st3.hp.cnt := back_cnt
      have has4 : ∀ M, M ≠ L → e3.has (st3.hp.back L (.lp slots n ps asg bd s')) M → e3.has st3.hp M := fun M hne hM => by
        refine ⟨by have := hM.1; rwa [hcnt4] at this, ?_⟩
        have := hM.2
        rwa [hc4, if_neg hne] at this
      have live4 : ∀ M, ((st3.hp.back L (.lp slots n ps asg bd s')).con M).live → M ≠ L ∧ (st3.hp.con M).live := fun M hl => by
        rw [hc4] at hl
        by_cases hE : M = L
        · rw [if_pos hE] at hl; exact hl.elim
        · rw [if_neg hE] at hl; exact ⟨hE, hl⟩
      have hE4 : ∀ a v, e3.E st3.hp a v → e3.E (st3.hp.back L (.lp slots n ps asg bd s')) a v := fun a v hE => by
        cases a with
        | pt M sz i j => exact ⟨by rw [hcnt4]; exact hE.1, hE.2.1, fun hl => hE.2.2 (live4 M hl).2⟩
        | os M => exact ⟨by rw [hcnt4]; exact hE.1, hE.2.1, fun hl => hE.2.2 (live4 M hl).2⟩
        | mr M => exact ⟨by rw [hcnt4]; exact hE.1, hE.2.1, fun hl => hE.2.2 (live4 M hl).2⟩
        | yl M => exact ⟨by rw [hcnt4]; exact hE.1, hE.2⟩
        | _ => exact hE.elim
      have hother3 : ∀ b, (B3 b ∨ ∃ M, e3.has st3.hp M ∧ (e3.β M).block = b) → (w3.putObj (e.β L).block (.loop o4)).heap[b]? = w3.heap[b]? := by
        rintro b (hb | ⟨M, hM, rfl⟩)
        · exact World.putObj_heap_other (fun hE => nb3 (hE ▸ hb))
        · exact World.putObj_heap_other (t3 M hM)
      have xx : Ext w B e h (w3.putObj (e.β L).block (.loop o4)) B3 e3 (st3.hp.back L (.lp slots n ps asg bd s')) := by
        have z1 := g3.size
        have z2 := k3.size
        simp only [World.putObj_size] at z2
        refine ⟨by simp; omega, k3.os.trans g3.os, k3.tape.trans g3.tape, k3.output.trans g3.output, fun b hb => k3.bsub b (g3.bsub b hb), fun b hb => ?_, fun b hb ho => ?_, fun M hM => ?_, fun f s => ?_, fun M hM => ?_, fun M hM hl => ?_⟩
        · rcases k3.bnew b hb with q | ⟨M, q1, q2⟩ | q
          · rcases g3.bnew b q with q | ⟨M, q1, q2⟩ | q
            · exact .inl q
            · exact .inr (.inl ⟨M, (has_drop q1).2, q2⟩)
            · exact .inr (.inr q)
          · rcases g3.onew M q1 with ⟨M', q3, q4⟩ | q3
            · exact .inr (.inl ⟨M', (has_drop q3).2, q4.trans q2⟩)
            · exact .inr (.inr (by omega))
          · exact .inr (.inr (by simp at q; omega))
        · have hbl : b ≠ (e.β L).block := fun hE => ho L hL hE.symm
          have u1 : ∀ M, e.has (h.set L .none) M → (e.β M).block ≠ b := fun M hM => ho M (has_drop hM).2
          obtain ⟨v1, v2, v3⟩ := unowned_ext g3 hb u1
          obtain ⟨_, v5, _⟩ := unowned_ext k3 (by simpa using v1) v3
          rw [World.putObj_heap_other hbl, v5, World.putObj_heap_other hbl, v2]
        · by_cases hE : M = L
          · exact .inl ⟨L, hL, by rw [hE, hβ3]⟩
          · rcases k3.onew M (has4 M hE hM) with ⟨M', q1, q2⟩ | q1
            · rcases g3.onew M' q1 with ⟨M2, q3, q4⟩ | q3
              · exact .inl ⟨M2, (has_drop q3).2, q4.trans q2⟩
              · exact .inr (by omega)
            · exact .inr (by simp at q1; omega)
        · rw [hcnt4]; exact Nat.le_trans (g3.cnt f s) (k3.cnt f s)
        · obtain ⟨q1, q2⟩ := g3.env M hM
          obtain ⟨q3, q4⟩ := k3.env M (Nat.lt_of_lt_of_le hM (g3.cnt _ _))
          exact ⟨q3.trans q1, q4.trans q2⟩
        · have h1 := live4 M hl
          have h2 := k3.live M (Nat.lt_of_lt_of_le hM (g3.cnt _ _)) h1.2
          have h3 := g3.live M hM h2
          rcases dropc (h := h) (L := L) M with h4 | h4
          · rw [h4] at h3; exact h3.elim
          · rwa [h4] at h3
      have hh4 : HRel (w3.putObj (e.β L).block (.loop o4)) B3 e3 (st3.hp.back L (.lp slots n ps asg bd s')) := by
        refine ⟨fun M hM => ?_, fun M M' hM hM' hb => ?_, fun b hb => by simpa using k2.hp.bnd b hb⟩
        · rw [hc4]
          by_cases hE : M = L
          · subst hE
            rw [if_pos rfl]
            refine ⟨by rw [hβ3]; exact nb3, o4, by rw [hβ3]; exact World.putObj_heap_same t1, by rw [ho4]; exact hpar, by rw [ho4]; exact hasg, by rw [ho4]; exact hbody, by rw [ho4]; exact hsz, fun i => ?_, ?_⟩
            · have : o4.tmps = r.tmps := by rw [ho4]
              rw [this]; exact (hslots i).ext hh xx
            · rw [ho4]
              cases s' with
              | ready => simp only at hj; subst hj; exact ⟨rfl, rfl⟩
              | done x => simp only at hj; subst hj; exact ⟨rfl, rfl⟩
          · rw [if_neg hE]
            have hk' : M.k < st3.hp.cnt M.f M.s := by rw [hcnt4] at hM; exact hM
            exact ConRel.move (fun a v hR => hR.mono (fun b hb => hother3 b (.inl hb)) (fun _ h => h) hE4) rfl rfl (fun ho => hother3 _ (.inr ⟨M, own_has hk' ho, rfl⟩)) (fun _ h => h) (k2.hp.con M hk')
        · by_cases hE : M = L
          · by_cases hE' : M' = L
            · rw [hE, hE']
            · exfalso
              rw [hE, hβ3] at hb
              exact t3 M' (has4 M' hE' hM') hb.symm
          · by_cases hE' : M' = L
            · exfalso
              rw [hE', hβ3] at hb
              exact t3 M (has4 M hE hM) hb
            · exact k2.hp.inj M M' (has4 M hE hM) (has4 M' hE' hM') hb
      refine ⟨_, _, run_endRound jump hrow3, _, .bool b, st3.hp.back L (.lp slots n ps asg bd s'), B3, e3, rfl, ?_, ?_, by rw [hb]; exact .bool _, hK⟩
      · rw [ho4] at hh4; exact hh4
      · rw [ho4] at xx; exact xx
    cases ex2 with
    | normal =>
      simp only [toEx, Option.some.injEq] at hx2; subst hx2
      exact finish none .ready rfl true rfl k1
    | exit id =>
      simp only [toEx, Option.some.injEq] at hx2; subst hx2
      exact finish (some (.exit id)) (.done (.exit id)) rfl false rfl k1
    | ret =>
      simp only [toEx, Option.some.injEq] at hx2; subst hx2
      exact finish (some .ret) (.done .ret) rfl false rfl k1
    | goto l => simp [toEx] at hx2
    | panic ch => simp [toEx] at hx2
    | outgrown => simp [toEx] at hx2
  cases ex with
  | normal =>
    simp only [toEx, Option.some.injEq] at hx'; subst hx'
    exact key g1
  | exit id => simp only [toEx, Option.some.injEq] at hx'; subst hx'; exact g1.elim
  | ret => simp only [toEx, Option.some.injEq] at hx'; subst hx'; exact g1.elim
  | goto l => simp [toEx] at hx'
  | panic ch => simp [toEx] at hx'
  | outgrown => simp [toEx] at hx'
end
end Go.T
/- The rules by which simp runs ranges over functions, nil tests, min and max. -/
namespace Go.T
open Go

def YieldX (P : Program) (L : Lab) (args : List AV) (h : Hp) (K : AV → Hp → Prop) (_ : Tok K) : Prop := YieldK P L args h K
theorem YieldX.of {P : Program} {L : Lab} {args : List AV} {h : Hp} {K : AV → Hp → Prop} {u : Tok K} (hc : YieldK P L args h K) : YieldX P L args h K u := hc
@[go_sem ↓, go_sem] theorem callV_yl {P : Program} {L : Lab} {args : List AV} {h : Hp} {K : AV → Hp → Prop} : callV P (.yl L) args h K = YieldX P L args h K ⟨⟩ := propext Iff.rfl

section
variable {P : Program} {fid : Nat} {T : Nat → List Tg} {Q : Ex → St → Prop} {st : St}
@[go_sem ↓, go_sem] theorem awp_range {g : Operand} {ps : List Nat} {asg body : Code} : awp P fid T (.rangeFunc g (List.toArray ps) asg body) Q st = rangeK P fid (st.ev g) ps asg body Q st := by simp [awp]
@[go_sem ↓, go_sem] theorem rangeK_fn {gf : Nat} {caps : List AV} {ps : List Nat} {asg body : Code} : rangeK P fid (.fn (.func gf) caps) ps asg body Q st = (hasBody P gf = true ∧ CallX P gf (.yl ⟨fid, lpSlot, st.hp.cnt fid lpSlot⟩ :: caps) (st.hp.alloc fid lpSlot (.lp st.slots (ntm P fid) ps asg body .ready))
      (fun _ h => endLpC (h.con ⟨fid, lpSlot, st.hp.cnt fid lpSlot⟩) (fun x => Q x ⟨st.slots, h.set ⟨fid, lpSlot, st.hp.cnt fid lpSlot⟩ .none⟩)) ⟨⟩) := propext Iff.rfl
@[congr] theorem rangeK_congr {g g' : AV} {ps : List Nat} {asg body : Code} (e : g = g') : rangeK P fid g ps asg body Q st = rangeK P fid g' ps asg body Q st := by subst e; rfl
end
section
variable {K : Ex → Prop} {sl : Nat → AV} {n : Nat} {ps : List Nat} {asg body : Code}
@[go_sem ↓, go_sem] theorem endLpC_r : endLpC (.lp sl n ps asg body .ready) K = K .normal := propext Iff.rfl
@[go_sem ↓, go_sem] theorem endLpC_e {id} : endLpC (.lp sl n ps asg body (.done (.exit id))) K = K (.exit id) := propext Iff.rfl
@[go_sem ↓, go_sem] theorem endLpC_t : endLpC (.lp sl n ps asg body (.done .ret)) K = K .ret := propext Iff.rfl
@[congr] theorem endLpC_congr {c c' : Con} {K : Ex → Prop} (e : c = c') : endLpC c K = endLpC c' K := by subst e; rfl
end
@[go_sem ↓, go_sem] theorem asgQ_n {N : St → Prop} {s : St} : asgQ N .normal s = N s := propext Iff.rfl
section
variable {L : Lab} {slots : Nat → AV} {n : Nat} {ps : List Nat} {asg body : Code} {K : AV → Hp → Prop} {s : St}
@[go_sem ↓, go_sem] theorem roundQ_n : roundQ L slots n ps asg body K .normal s = K (.bool true) (s.hp.back L (.lp slots n ps asg body .ready)) := propext Iff.rfl
@[go_sem ↓, go_sem] theorem roundQ_e {id} : roundQ L slots n ps asg body K (.exit id) s = K (.bool false) (s.hp.back L (.lp slots n ps asg body (.done (.exit id)))) := propext Iff.rfl
@[go_sem ↓, go_sem] theorem roundQ_r : roundQ L slots n ps asg body K .ret s = K (.bool false) (s.hp.back L (.lp slots n ps asg body (.done .ret))) := propext Iff.rfl
end
@[go_sem] theorem putS_cons {p ps a as st} : putS (p :: ps) (a :: as) st = putS ps as (st.put (some p) a) := by simp [putS]
@[go_sem] theorem putS_nil {as st} : putS [] as st = st := by simp [putS]
@[go_sem] theorem mk_slots {s : Nat → AV} {h : Hp} {i : Nat} : (St.mk s h).slots i = s i := by simp
@[go_sem] theorem mk_hp {s : Nat → AV} {h : Hp} : (St.mk s h).hp = h := by simp
@[go_sem] theorem cells_yl {L} : (AV.yl L).cells = [.yl L] := by simp [AV.cells]
@[go_sem] theorem isCell_yl {L} : (AV.yl L).isCell = true := by simp [AV.isCell]
@[go_sem] theorem cells_fn {f cs} : (AV.fn f cs).cells = [.fn f cs] := by simp [AV.cells]
@[go_sem] theorem isCell_fn {f cs} : (AV.fn f cs).isCell = true := by simp [AV.isCell]
@[go_sem] theorem cells_nilf : AV.nilf.cells = [.nilf] := by simp [AV.cells]
@[go_sem] theorem isCell_nilf : AV.nilf.isCell = true := by simp [AV.isCell]
@[go_sem] theorem cells_nilp : AV.nilp.cells = [.nilp] := by simp [AV.cells]
@[go_sem] theorem isCell_nilp : AV.nilp.isCell = true := by simp [AV.isCell]
@[go_sem] theorem ofVal_nilf : AV.ofVal .nilFunc = .nilf := by simp [AV.ofVal]

/- Tests for nil. -/
def nilK (k : TK) (x : AV) (K : Bool → Prop) : Prop := match k, x with
  | .pointer, .ip _ => K false
  | .pointer, .pt _ _ _ _ => K false
  | .pointer, .nilp => K true
  | .func, .fn _ _ => K false
  | .func, .nilf => K true
  | _, _ => False
def nilL (k : TK) (yn : Bool) (xs : List AV) (K : Bool → Prop) : Prop := match k with
  | .slice _ => yn = true ∧ (xs = [] → K true) ∧ K false
  | _ => False
section
variable {P : Program} {t : TypeId} {y : Operand} {K : AV → Prop}
@[go_sem ↓, go_sem] theorem nilK_fn {f cs} {K : Bool → Prop} : nilK .func (.fn f cs) K = K false := propext Iff.rfl
@[go_sem ↓, go_sem] theorem nilK_nf {K : Bool → Prop} : nilK .func .nilf K = K true := propext Iff.rfl
@[go_sem ↓, go_sem] theorem nilK_ip {cs} {K : Bool → Prop} : nilK .pointer (.ip cs) K = K false := propext Iff.rfl
@[go_sem ↓, go_sem] theorem nilK_pt {L a b c} {K : Bool → Prop} : nilK .pointer (.pt L a b c) K = K false := propext Iff.rfl
@[go_sem ↓, go_sem] theorem nilK_np {K : Bool → Prop} : nilK .pointer .nilp K = K true := propext Iff.rfl
@[go_sem ↓, go_sem] theorem nilL_s {el yn xs} {K : Bool → Prop} : nilL (.slice el) yn xs K = (yn = true ∧ (xs = [] → K true) ∧ K false) := propext Iff.rfl
@[congr] theorem nilK_congr {k k' : TK} {x : AV} {K : Bool → Prop} (e : k = k') : nilK k x K = nilK k' x K := by subst e; rfl
@[congr] theorem nilL_congr {k k' : TK} {yn yn' : Bool} {xs : List AV} {K : Bool → Prop} (e : k = k') (e1 : yn = yn') : nilL k yn xs K = nilL k' yn' xs K := by subst e; subst e1; rfl
@[go_sem] theorem nilSlice_s {a b} : nilSlice (.const (.slice .none a b)) = true := by simp [nilSlice]
@[go_sem ↓, go_sem] theorem bin_fn_eq {f cs} : binK (EqI.mk' P t y) .eql (.fn f cs) .nilf K = nilK (tk P t) (.fn f cs) (fun b => K (.bool b)) := by
  simp only [binK, EqI.mk']; unfold eqK nilK; cases tk P t <;> rfl
@[go_sem ↓, go_sem] theorem bin_fn_ne {f cs} : binK (EqI.mk' P t y) .neq (.fn f cs) .nilf K = nilK (tk P t) (.fn f cs) (fun b => K (.bool (!b))) := by
  simp only [binK, EqI.mk']; unfold eqK nilK; cases tk P t <;> rfl
@[go_sem ↓, go_sem] theorem bin_nf_eq : binK (EqI.mk' P t y) .eql .nilf .nilf K = nilK (tk P t) .nilf (fun b => K (.bool b)) := by
  simp only [binK, EqI.mk']; unfold eqK nilK; cases tk P t <;> rfl
@[go_sem ↓, go_sem] theorem bin_ip_eq {cs} : binK (EqI.mk' P t y) .eql (.ip cs) .nilp K = nilK (tk P t) (.ip cs) (fun b => K (.bool b)) := by
  simp only [binK, EqI.mk']; unfold eqK nilK; cases tk P t <;> rfl
@[go_sem ↓, go_sem] theorem bin_ip_ne {cs} : binK (EqI.mk' P t y) .neq (.ip cs) .nilp K = nilK (tk P t) (.ip cs) (fun b => K (.bool (!b))) := by
  simp only [binK, EqI.mk']; unfold eqK nilK; cases tk P t <;> rfl
@[go_sem ↓, go_sem] theorem bin_pt_eq {L a b c} : binK (EqI.mk' P t y) .eql (.pt L a b c) .nilp K = nilK (tk P t) (.pt L a b c) (fun b => K (.bool b)) := by
  simp only [binK, EqI.mk']; unfold eqK nilK; cases tk P t <;> rfl
@[go_sem ↓, go_sem] theorem bin_pt_ne {L a b c} : binK (EqI.mk' P t y) .neq (.pt L a b c) .nilp K = nilK (tk P t) (.pt L a b c) (fun b => K (.bool (!b))) := by
  simp only [binK, EqI.mk']; unfold eqK nilK; cases tk P t <;> rfl
@[go_sem ↓, go_sem] theorem bin_np_eq : binK (EqI.mk' P t y) .eql .nilp .nilp K = nilK (tk P t) .nilp (fun b => K (.bool b)) := by
  simp only [binK, EqI.mk']; unfold eqK nilK; cases tk P t <;> rfl
@[go_sem ↓, go_sem] theorem bin_np_ne : binK (EqI.mk' P t y) .neq .nilp .nilp K = nilK (tk P t) .nilp (fun b => K (.bool (!b))) := by
  simp only [binK, EqI.mk']; unfold eqK nilK; cases tk P t <;> rfl
@[go_sem ↓, go_sem] theorem bin_l_eq {a b xs c d ys} : binK (EqI.mk' P t y) .eql (.l a b xs) (.l c d ys) K = nilL (tk P t) (nilSlice y) xs (fun b => K (.bool b)) := by
  simp only [binK, EqI.mk']; unfold eqK nilL; cases tk P t <;> rfl
@[go_sem ↓, go_sem] theorem bin_l_ne {a b xs c d ys} : binK (EqI.mk' P t y) .neq (.l a b xs) (.l c d ys) K = nilL (tk P t) (nilSlice y) xs (fun b => K (.bool (!b))) := by
  simp only [binK, EqI.mk']; unfold eqK nilL; cases tk P t <;> rfl
end
section
variable {P : Program} {fid : Nat} {d : Option Nat} {ty : TypeId} {ps : String} {af : Array Edge} {g : Option (Nat × Bool)} {st : St} {K : St → Prop}
@[go_sem ↓, go_sem] theorem opK_min {args ats} : opK P fid ⟨d, .call ⟨.builtin .min, args, ats⟩, ty, ps, af, g⟩ st K = mmK false st.hp (fun r h => K ((st.withHp h).put d r)) (args.toList.map st.ev) := propext Iff.rfl
@[go_sem ↓, go_sem] theorem opK_max {args ats} : opK P fid ⟨d, .call ⟨.builtin .max, args, ats⟩, ty, ps, af, g⟩ st K = mmK true st.hp (fun r h => K ((st.withHp h).put d r)) (args.toList.map st.ev) := propext Iff.rfl
end
@[go_sem ↓, go_sem] theorem mmK_min {h : Hp} {K : AV → Hp → Prop} {k k' a b} : mmK false h K [.int k a, .int k' b] = K (.int k (if b < a then b else a)) h := by simp [mmK]
@[go_sem ↓, go_sem] theorem mmK_max {h : Hp} {K : AV → Hp → Prop} {k k' a b} : mmK true h K [.int k a, .int k' b] = K (.int k (if b > a then b else a)) h := by simp [mmK]
@[congr] theorem mmK_congr {mx : Bool} {h h' : Hp} {K : AV → Hp → Prop} {args args' : List AV} (e : h = h') (e1 : args = args') : mmK mx h K args = mmK mx h' K args' := by subst e; subst e1; rfl
/- The record under a name. -/
def lpWith (c : Con) (s : LpS) : Con := match c with
  | .lp a b d e g _ => .lp a b d e g s
  | c => c
@[go_sem] theorem lpWith_lp {a b d e g s' s} : lpWith (.lp a b d e g s') s = .lp a b d e g s := by simp [lpWith]
def roundC (L : Lab) (c : Con) (K : AV → Hp → Prop) : Ex → St → Prop
  | .normal, s => K (.bool true) (s.hp.back L c)
  | .exit id, s => K (.bool false) (s.hp.back L (lpWith c (.done (.exit id))))
  | .ret, s => K (.bool false) (s.hp.back L (lpWith c (.done .ret)))
section
variable {L : Lab} {c : Con} {K : AV → Hp → Prop} {s : St}
@[go_sem ↓, go_sem] theorem roundC_n : roundC L c K .normal s = K (.bool true) (s.hp.back L c) := propext Iff.rfl
@[go_sem ↓, go_sem] theorem roundC_e {id} : roundC L c K (.exit id) s = K (.bool false) (s.hp.back L (lpWith c (.done (.exit id)))) := propext Iff.rfl
@[go_sem ↓, go_sem] theorem roundC_r : roundC L c K .ret s = K (.bool false) (s.hp.back L (lpWith c (.done .ret))) := propext Iff.rfl
end
theorem YieldX.round {P : Program} (hm : P.follows .mixedOrders = true) (fid : Nat) (T : Nat → List Tg) {L : Lab} {args : List AV} {h : Hp} {K : AV → Hp → Prop} {c : Con} {slots : Nat → AV} {n : Nat} {ps : List Nat} {asg bd : Code}
    (hcon : h.con L = c) (hlp : c = .lp slots n ps asg bd .ready) (hn : ntm P fid = n) (hps : ∀ p ∈ ps, p < n) (hok1 : okCode n T asg = true) (hok2 : okCode n T bd = true) (hlen : args.length = ps.length)
    (hk : awp P fid T asg (asgQ (awp P fid T bd (roundC L c K))) (putS ps args ⟨slots, h.set L .none⟩)) : YieldK P L args h K := by
  subst hlp
  refine YieldK.of_awp hm fid T hcon hn hps hok1 hok2 hlen (awp_mono hk fun x s hs => ?_)
  cases x with
  | normal =>
    refine awp_mono hs fun x s hs => ?_
    cases x with
    | normal => exact hs
    | exit id => exact hs
    | ret => exact hs
  | exit id => exact hs.elim
  | ret => exact hs.elim
theorem Keeps.back {h H : Hp} (k : Keeps h H) {L : Lab} (hL : h.con L = .none) (c : Con) : Keeps h (H.back L c) := by
  intro M
  by_cases hE : M = L
  · left; rw [hE]; exact hL
  · rcases k M with h1 | h1
    · exact .inl h1
    · right
      unfold Hp.back
      split
      · rw [← h1]; exact if_neg hE
      · exact h1
theorem range_intro {P : Program} {gf f s : Nat} {args : List AV} {H : Hp} {c : Con} {K : AV → Hp → Prop} {u : Tok K} (hk : ∀ c', c' = c → CallX P gf args (H.alloc f s c') K u) : CallX P gf args (H.alloc f s c) K u := hk c rfl
theorem lt_of_con {h : Hp} {L : Lab} {c : Con} (hc : h.con L = c) (hn : c ≠ .none) : L.k < h.cnt L.f L.s := by
  rcases Nat.lt_or_ge L.k (h.cnt L.f L.s) with h1 | h1
  · exact h1
  · exact absurd (hc.symm.trans (h.ok L h1)) hn
theorem lpSlot_ne {n : Nat} (h : n < 1000000) : (lpSlot = n) = False := by
  unfold lpSlot; simp; omega
theorem ne_lpSlot {n : Nat} (h : n < 1000000) : (n = lpSlot) = False := by
  unfold lpSlot; simp; omega
end Go.T
/- Plain: the notes of a history, the reference's answer and the ghost's own way to it. No program in sight. -/
namespace Go.Gh
set_option linter.unusedSimpArgs false

structure Note where
  kind : Int
  obj : Int
  node : Int
  num : Int
  to : Int
  next : Int
  deriving DecidableEq

def isMade (obj node : Int) (n : Note) : Bool := n.kind == 1 && n.obj == obj && n.node == node
def madeN (ns : List Note) (obj node : Int) : Nat := (ns.filter (isMade obj node)).length
theorem madeN_step (ns : List Note) (obj node : Int) (i : Nat) (h : i < ns.length) : madeN (ns.take (i + 1)) obj node = if isMade obj node ns[i] then madeN (ns.take i) obj node + 1 else madeN (ns.take i) obj node := by
  unfold madeN
  rw [List.take_succ_eq_append_getElem h, List.filter_append]
  by_cases hc : isMade obj node ns[i]
  · simp [hc]
  · simp [hc]
theorem madeN_le (ns : List Note) (obj node : Int) : madeN ns obj node ≤ ns.length := List.length_filter_le _ _
theorem madeN_snoc (ns : List Note) (n : Note) (obj node : Int) : madeN (ns ++ [n]) obj node = if isMade obj node n then madeN ns obj node + 1 else madeN ns obj node := by
  unfold madeN
  rw [List.filter_append]
  by_cases hc : isMade obj node n <;> simp [hc]

def thereB (home : Int) (ns : List Note) (obj node num : Int) : Bool := (decide (1 ≤ num) && decide (num ≤ madeN ns obj node)) || (num == 0 && node == home)
def hasB (made : List Int) (home node num : Int) : Bool :=
  decide (0 ≤ node) && decide (node < 32) && ((decide (1 ≤ num) && decide (num ≤ made.getD node.toNat 0)) || (num == 0 && node == home))

/-- Where an object is, and whether it is freed, behind one more note. -/
def atStep (obj : Int) (s : Int × Int × Bool) (x : Note) : Int × Int × Bool :=
  if x.obj = obj ∧ x.kind = 4 then (x.node, x.num, false) else if x.obj = obj ∧ x.kind = 3 then (s.1, s.2.1, true) else s
def atOf (home obj : Int) (ns : List Note) : Int × Int × Bool := ns.foldl (atStep obj) (home, 0, true)
theorem atOf_step (home obj : Int) (ns : List Note) (i : Nat) (h : i < ns.length) : atOf home obj (ns.take (i + 1)) = atStep obj (atOf home obj (ns.take i)) ns[i] := by
  unfold atOf
  rw [List.take_succ_eq_append_getElem h, List.foldl_append]
  rfl
theorem atOf_snoc (home obj : Int) (ns : List Note) (n : Note) : atOf home obj (ns ++ [n]) = atStep obj (atOf home obj ns) n := by
  unfold atOf; rw [List.foldl_append]; rfl
def clash (n x : Note) : Bool := x.kind == 2 && x.obj == n.obj && ((x.node == n.node && x.num == n.num) || (x.to == n.to && x.next == n.next))
def isNext (obj node num : Int) (x : Note) : Bool := x.kind == 2 && x.obj == obj && x.node == node && x.num == num
def canB (home : Int) (ns : List Note) (n : Note) : Bool :=
  if n.kind ≠ 2 ∧ (n.to ≠ 0 ∨ n.next ≠ 0) then false
  else if n.kind = 1 then decide (0 ≤ n.node) && decide (n.node < 32) && n.num == madeN ns n.obj n.node + 1
  else if n.kind = 2 then !ns.any (clash n) && n.next != 0 && thereB home ns n.obj n.node n.num && thereB home ns n.obj n.to n.next
  else if n.kind = 3 then !(atOf home n.obj ns).2.2 && n.node == (atOf home n.obj ns).1 && n.num == (atOf home n.obj ns).2.1
  else if n.kind = 4 then (match ns.find? (isNext n.obj (atOf home n.obj ns).1 (atOf home n.obj ns).2.1) with
    | some x => (atOf home n.obj ns).2.2 && x.to == n.node && x.next == n.num
    | none => false)
  else false

/-- The reference's Check. -/
def checkB (homes : List Int) (ns : List Note) (n : Note) : Bool :=
  decide (0 ≤ n.obj) && decide (n.obj < homes.length) && canB (homes.getD n.obj.toNat 0) ns n

/-- What is known of an object. -/
structure Ob where
  made : List Int
  next : List ((Int × Int) × (Int × Int))
  heirs : List ((Int × Int) × (Int × Int))
  node : Int
  num : Int
  freed : Bool
  home : Int

def lookF (es : List ((Int × Int) × (Int × Int))) (k : Int × Int) : Option (Int × Int) := (es.find? (fun e => e.1 == k)).map (·.2)

def noteF (o : Ob) (n : Note) : Option Ob :=
  if n.kind ≠ 2 ∧ (n.to ≠ 0 ∨ n.next ≠ 0) then none
  else if n.kind = 1 then (if n.node < 0 ∨ 32 ≤ n.node ∨ n.num ≠ o.made.getD n.node.toNat 0 + 1 then none else some { o with made := o.made.set n.node.toNat n.num })
  else if n.kind = 2 then (if !hasB o.made o.home n.node n.num || !hasB o.made o.home n.to n.next || n.next == 0 || (lookF o.next (n.node, n.num)).isSome || (lookF o.heirs (n.to, n.next)).isSome then none
    else some { o with next := o.next ++ [((n.node, n.num), (n.to, n.next))], heirs := o.heirs ++ [((n.to, n.next), (n.node, n.num))] })
  else if n.kind = 3 then (if n.node ≠ o.node ∨ n.num ≠ o.num ∨ o.freed = true then none else some { o with freed := true })
  else if n.kind = 4 then (if lookF o.next (o.node, o.num) = some (n.node, n.num) ∧ o.freed = true then some { o with node := n.node, num := n.num, freed := false } else none)
  else none

def isLed (obj : Int) (x : Note) : Bool := x.kind == 2 && x.obj == obj
/-- What the notes tell of an object. -/
def obOf (home : Int) (obj : Int) (ns : List Note) : Ob where
  made := (List.range 32).map (fun v : Nat => (madeN ns obj (v : Int) : Int))
  next := (ns.filter (isLed obj)).map (fun x => ((x.node, x.num), (x.to, x.next)))
  heirs := (ns.filter (isLed obj)).map (fun x => ((x.to, x.next), (x.node, x.num)))
  node := (atOf home obj ns).1
  num := (atOf home obj ns).2.1
  freed := (atOf home obj ns).2.2
  home := home

def Good (ns : List Note) : Prop := ∀ x ∈ ns, x.kind = 1 → 0 ≤ x.node ∧ x.node < 32

theorem made_at (home obj : Int) (ns : List Note) (v : Int) (h0 : 0 ≤ v) (h1 : v < 32) : (obOf home obj ns).made.getD v.toNat 0 = (madeN ns obj v : Int) := by
  have h : v.toNat < 32 := by omega
  have e : ((v.toNat : Nat) : Int) = v := by omega
  simp [obOf, h, e]

theorem madeN_out {ns : List Note} (hg : Good ns) (obj node : Int) (h : ¬ (0 ≤ node ∧ node < 32)) : madeN ns obj node = 0 := by
  unfold madeN
  rw [List.length_eq_zero_iff, List.filter_eq_nil_iff]
  intro x hx hm
  simp only [isMade, Bool.and_eq_true, beq_iff_eq] at hm
  have := hg x hx hm.1.1
  rw [hm.2] at this
  exact h this

theorem has_there {home : Int} (h0 : 0 ≤ home) (h1 : home < 32) {ns : List Note} (hg : Good ns) (obj node num : Int) : hasB (obOf home obj ns).made home node num = thereB home ns obj node num := by
  unfold hasB thereB
  by_cases h : 0 ≤ node ∧ node < 32
  · rw [made_at home obj ns node h.1 h.2]
    simp [h.1, h.2]
  · rw [madeN_out hg obj node h]
    have e1 : (decide (0 ≤ node) && decide (node < 32)) = false := by
      simp only [Bool.and_eq_false_iff, decide_eq_false_iff_not]; omega
    rw [e1]
    by_cases hh : node = home
    · omega
    · simp [hh]; omega

theorem lookF_isSome (es : List ((Int × Int) × (Int × Int))) (k : Int × Int) : (lookF es k).isSome = es.any (fun e => e.1 == k) := by
  unfold lookF
  induction es with
  | nil => rfl
  | cons x r ih =>
    simp only [List.find?_cons, List.any_cons]
    cases x.1 == k
    · simpa using ih
    · rfl

theorem clash_any (home : Int) (n : Note) (ns : List Note) : ns.any (clash n) = ((lookF (obOf home n.obj ns).next (n.node, n.num)).isSome || (lookF (obOf home n.obj ns).heirs (n.to, n.next)).isSome) := by
  rw [lookF_isSome, lookF_isSome]
  simp only [obOf, List.any_map, List.any_filter]
  induction ns with
  | nil => simp
  | cons x r ih =>
    simp only [List.any_cons, ih, clash, isLed, Function.comp]
    have e1 : (((x.node, x.num) : Int × Int) == (n.node, n.num)) = (x.node == n.node && x.num == n.num) := rfl
    have e2 : (((x.to, x.next) : Int × Int) == (n.to, n.next)) = (x.to == n.to && x.next == n.next) := rfl
    rw [e1, e2]
    cases (x.kind == 2) <;> cases (x.obj == n.obj) <;> cases (x.node == n.node && x.num == n.num) <;> cases (x.to == n.to && x.next == n.next) <;> simp

theorem find_next (home obj node num : Int) (ns : List Note) : lookF (obOf home obj ns).next (node, num) = (ns.find? (isNext obj node num)).map (fun x => (x.to, x.next)) := by
  simp only [obOf, lookF]
  induction ns with
  | nil => simp
  | cons x r ih =>
    by_cases hl : isLed obj x
    · simp only [List.filter_cons, hl, ↓reduceIte, List.map_cons, List.find?_cons]
      have e1 : (((x.node, x.num) : Int × Int) == (node, num)) = (x.node == node && x.num == num) := rfl
      rw [e1]
      have e2 : isNext obj node num x = (x.node == node && x.num == num) := by
        simp only [isLed] at hl
        simp only [isNext]
        rw [hl]; simp
      rw [e2]
      cases (x.node == node && x.num == num)
      · exact ih
      · rfl
    · have hl' : isLed obj x = false := by simpa using hl
      simp only [List.filter_cons, hl', List.find?_cons]
      have e2 : isNext obj node num x = false := by
        simp only [isLed] at hl'
        simp only [isNext]
        rw [hl']; simp
      rw [e2]
      simpa using ih

theorem obOf_other (home obj : Int) (ns : List Note) (n : Note) (h : n.obj ≠ obj) : obOf home obj (ns ++ [n]) = obOf home obj ns := by
  have e1 : ∀ v, madeN (ns ++ [n]) obj v = madeN ns obj v := fun v => by rw [madeN_snoc]; simp [isMade, h]
  have e2 : isLed obj n = false := by simp [isLed, h]
  have e3 : atOf home obj (ns ++ [n]) = atOf home obj ns := by rw [atOf_snoc]; simp [atStep, h]
  unfold obOf
  simp only [e1, e3, List.filter_append, List.filter_cons, e2, List.filter_nil]
  simp

theorem set_map (f g : Nat → Int) (m v : Nat) (x : Int) (hg : ∀ i, g i = if i = v then x else f i) : ((List.range m).map f).set v x = (List.range m).map g := by
  apply List.ext_getElem
  · simp
  · intro i h1 h2
    simp at h1 h2
    rw [List.getElem_set]
    by_cases h : v = i
    · simp [h, hg]
    · have h' : ¬ i = v := fun e => h e.symm
      simp [h, hg, h']

/-- **A note that can be is taken in; one that can't is refused.** -/
theorem noteF_can {home : Int} (h0 : 0 ≤ home) (h1 : home < 32) {ns : List Note} (hg : Good ns) (n : Note) :
    noteF (obOf home n.obj ns) n = if canB home ns n then some (obOf home n.obj (ns ++ [n])) else none := by
  have hm := fun v => madeN_snoc ns n n.obj v
  have ha := atOf_snoc home n.obj ns n
  unfold noteF canB
  by_cases c0 : n.kind ≠ 2 ∧ (n.to ≠ 0 ∨ n.next ≠ 0)
  · rw [if_pos c0, if_pos c0]; rfl
  rw [if_neg c0, if_neg c0]
  by_cases c1 : n.kind = 1
  · rw [if_pos c1, if_pos c1]
    by_cases c : n.node < 0 ∨ 32 ≤ n.node ∨ n.num ≠ (obOf home n.obj ns).made.getD n.node.toNat 0 + 1
    · rw [if_pos c]
      symm
      rw [if_neg]
      simp only [Bool.and_eq_true, decide_eq_true_eq, beq_iff_eq]
      rintro ⟨⟨c2, c3⟩, c4⟩
      rw [made_at home n.obj ns n.node c2 c3] at c
      omega
    · rw [if_neg c]
      have c2 : 0 ≤ n.node := by omega
      have c3 : n.node < 32 := by omega
      have hv := made_at home n.obj ns n.node c2 c3
      have c4 : n.num = madeN ns n.obj n.node + 1 := by omega
      rw [if_pos (by simp [c2, c3, c4])]
      congr 1
      have e3 : atOf home n.obj (ns ++ [n]) = atOf home n.obj ns := by rw [ha]; simp [atStep, c1]
      have e2 : isLed n.obj n = false := by simp [isLed, c1]
      unfold obOf
      simp only [e3, List.filter_append, List.filter_cons, e2, List.filter_nil]
      congr 1
      · rw [c4]
        refine set_map _ _ 32 n.node.toNat _ (fun i => ?_)
        rw [hm]
        by_cases hi : i = n.node.toNat
        · have : ((i : Nat) : Int) = n.node := by omega
          rw [if_pos hi, this]
          simp [isMade, c1]
        · rw [if_neg hi]
          have : ¬ n.node = (i : Int) := by omega
          simp [isMade, c1, this]
      · simp
      · simp
  rw [if_neg c1, if_neg c1]
  have e1 : ∀ v, madeN (ns ++ [n]) n.obj v = madeN ns n.obj v := fun v => by rw [hm]; simp [isMade, c1]
  by_cases c2 : n.kind = 2
  · rw [if_pos c2, if_pos c2]
    have e3 : atOf home n.obj (ns ++ [n]) = atOf home n.obj ns := by rw [ha]; simp [atStep, c2]
    have e2 : isLed n.obj n = true := by simp [isLed, c2]
    have eh : (obOf home n.obj ns).home = home := rfl
    rw [clash_any home n ns, eh, has_there h0 h1 hg, has_there h0 h1 hg]
    have es : obOf home n.obj (ns ++ [n]) = { obOf home n.obj ns with next := (obOf home n.obj ns).next ++ [((n.node, n.num), (n.to, n.next))], heirs := (obOf home n.obj ns).heirs ++ [((n.to, n.next), (n.node, n.num))] } := by
      unfold obOf
      simp only [e1, e3, List.filter_append, List.filter_cons, e2, List.filter_nil, List.map_append]
      simp
    rw [es]
    cases thereB home ns n.obj n.node n.num <;> cases thereB home ns n.obj n.to n.next <;> cases (lookF (obOf home n.obj ns).next (n.node, n.num)).isSome <;> cases (lookF (obOf home n.obj ns).heirs (n.to, n.next)).isSome <;> by_cases hz : n.next = 0 <;> simp [hz, eh]
  rw [if_neg c2, if_neg c2]
  have e2 : isLed n.obj n = false := by simp [isLed, c2]
  by_cases c3 : n.kind = 3
  · rw [if_pos c3, if_pos c3]
    have e3 : atOf home n.obj (ns ++ [n]) = ((atOf home n.obj ns).1, (atOf home n.obj ns).2.1, true) := by rw [ha]; simp [atStep, c3]
    have es : obOf home n.obj (ns ++ [n]) = { obOf home n.obj ns with freed := true } := by
      unfold obOf
      simp only [e1, e3, List.filter_append, List.filter_cons, e2, List.filter_nil, List.map_append]
      simp
    rw [es]
    simp only [obOf]
    by_cases d1 : n.node = (atOf home n.obj ns).1 <;> by_cases d2 : n.num = (atOf home n.obj ns).2.1 <;> by_cases d3 : (atOf home n.obj ns).2.2 = true <;> simp [d1, d2, d3]
  rw [if_neg c3, if_neg c3]
  by_cases c4 : n.kind = 4
  · rw [if_pos c4, if_pos c4]
    have e3 : atOf home n.obj (ns ++ [n]) = (n.node, n.num, false) := by rw [ha]; simp [atStep, c4]
    have es : obOf home n.obj (ns ++ [n]) = { obOf home n.obj ns with node := n.node, num := n.num, freed := false } := by
      unfold obOf
      simp only [e1, e3, List.filter_append, List.filter_cons, e2, List.filter_nil, List.map_append]
      simp
    rw [es, find_next]
    show (if Option.map (fun x => (x.to, x.next)) (List.find? (isNext n.obj (atOf home n.obj ns).1 (atOf home n.obj ns).2.1) ns) = some (n.node, n.num) ∧ (atOf home n.obj ns).2.2 = true then _ else _) = _
    cases hf : List.find? (isNext n.obj (atOf home n.obj ns).1 (atOf home n.obj ns).2.1) ns with
    | none => simp
    | some x =>
      by_cases d1 : x.to = n.node <;> by_cases d2 : x.next = n.num <;> cases d3 : (atOf home n.obj ns).2.2 <;> simp [d1, d2]
  rw [if_neg c4, if_neg c4]; rfl

theorem good_snoc {home : Int} {ns : List Note} (hg : Good ns) {n : Note} (h : canB home ns n = true) : Good (ns ++ [n]) := by
  intro x hx hk
  rcases List.mem_append.1 hx with hx | hx
  · exact hg x hx hk
  · have : x = n := by simpa using hx
    subst this
    unfold canB at h
    split at h
    · simp at h
    · simp only [Bool.and_eq_true, decide_eq_true_eq] at h
      exact ⟨h.1.1, h.1.2⟩
/- Check, as it is answered. -/
def badHomes (homes : List Int) : Bool := decide (8 < homes.length) || homes.any (fun h => decide (h < 0) || decide (32 ≤ h))
def goodAt (homes : List Int) (ns : List Note) (i : Nat) : Bool := match ns[i]? with
  | some n => checkB homes (ns.take i) n
  | none => true
def checkR (homes : List Int) (ns : List Note) : Int × Int :=
  if badHomes homes then (0, 1) else match (List.range ns.length).find? (fun i => !goodAt homes ns i) with
    | some i => (i, 25)
    | none => (0, 0)
theorem goodAt_eq {homes : List Int} {ns : List Note} {i : Nat} (h : i < ns.length) : goodAt homes ns i = checkB homes (ns.take i) ns[i] := by
  unfold goodAt; rw [List.getElem?_eq_getElem h]
theorem checkR_bad {homes : List Int} {ns : List Note} (h : badHomes homes = true) : checkR homes ns = (0, 1) := by unfold checkR; rw [if_pos h]
theorem checkR_at {homes : List Int} {ns : List Note} (h : badHomes homes = false) {i : Nat} (hi : i < ns.length) (hg : ∀ j, j < i → goodAt homes ns j = true) (hb : goodAt homes ns i = false) : checkR homes ns = ((i : Int), 25) := by
  unfold checkR
  have : (List.range ns.length).find? (fun i => !goodAt homes ns i) = some i := by
    rw [List.find?_range_eq_some]
    refine ⟨by simp [hb], by simpa using hi, fun j hj => by simp [hg j hj]⟩
  rw [this, h]; simp
theorem checkR_ok {homes : List Int} {ns : List Note} (h : badHomes homes = false) (hg : ∀ j, j < ns.length → goodAt homes ns j = true) : checkR homes ns = (0, 0) := by
  unfold checkR
  have : (List.range ns.length).find? (fun i => !goodAt homes ns i) = none := by
    rw [List.find?_range_eq_none]
    intro j hj; simp [hg j hj]
  rw [this, h]; simp
theorem homes_in {homes : List Int} (h : badHomes homes = false) {k : Nat} (hk : k < homes.length) : 0 ≤ homes[k] ∧ homes[k] < 32 := by
  simp only [badHomes, Bool.or_eq_false_iff, List.any_eq_false] at h
  have := h.2 _ (List.getElem_mem hk)
  simp only [Bool.or_eq_true, decide_eq_true_eq] at this
  omega
/- Queue. -/
def queueL (obj : Int) (ns : List Note) : Nat → Int × Int → List (Int × Int)
  | 0, _ => []
  | k + 1, a => a :: (match ns.find? (isNext obj a.1 a.2) with
    | some x => queueL obj ns k (x.to, x.next)
    | none => [])
def queueR (homes : List Int) (ns : List Note) (obj : Int) : List (Int × Int) :=
  if 0 ≤ obj ∧ obj < homes.length then queueL obj ns (ns.length + 1) (homes.getD obj.toNat 0, 0) else []
theorem queueL_length (obj : Int) (ns : List Note) : ∀ k a, (queueL obj ns k a).length ≤ k := by
  intro k
  induction k with
  | zero => intro a; simp [queueL]
  | succ k ih =>
    intro a
    simp only [queueL, List.length_cons]
    split
    · have := ih (‹Note›.to, ‹Note›.next); omega
    · simp
def idxP {α : Type} (p : α → Bool) (l : List α) : Int := match l.findIdx? p with
  | some i => i
  | none => -1
theorem idxP_at {α : Type} (p : α → Bool) (l : List α) (i : Nat) (h : i < l.length) (hp : p l[i] = true) (hn : ∀ x ∈ l.take i, p x = false) : idxP p l = i := by
  unfold idxP
  have : l.findIdx? p = some i := by
    rw [List.findIdx?_eq_some_iff_getElem]
    refine ⟨h, hp, fun j hj => ?_⟩
    have := hn l[j] (by rw [List.mem_take_iff_getElem]; exact ⟨j, by omega, rfl⟩)
    simp [this]
  rw [this]
theorem idxP_none {α : Type} (p : α → Bool) (l : List α) (hn : ∀ x ∈ l, p x = false) : idxP p l = -1 := by
  unfold idxP
  have : l.findIdx? p = none := by
    rw [List.findIdx?_eq_none_iff]; exact hn
  rw [this]
theorem idxP_cases {α : Type} (p : α → Bool) (l : List α) : (idxP p l = -1 ∧ l.find? p = none) ∨ ∃ i, ∃ h : i < l.length, idxP p l = i ∧ l.find? p = some l[i] := by
  unfold idxP
  cases hx : l.findIdx? p with
  | none =>
    left
    refine ⟨rfl, ?_⟩
    rw [List.findIdx?_eq_none_iff] at hx
    rw [List.find?_eq_none]
    intro x hxx; simp [hx x hxx]
  | some i =>
    right
    rw [List.findIdx?_eq_some_iff_getElem] at hx
    obtain ⟨h, h1, h2⟩ := hx
    refine ⟨i, h, rfl, ?_⟩
    rw [List.find?_eq_some_iff_getElem]
    exact ⟨h1, i, h, rfl, fun j hj => by simpa using h2 j hj⟩
end Go.Gh
/- Maps of pairs of ints to pairs of ints: what is found, what is laid in; the frame of labels. -/
namespace Go.T
open Go Go.Gh

def pairA (k : Int × Int) : AV := .agg [.int .i64 k.1, .int .i64 k.2]
def mapE : List ((Int × Int) × (Int × Int)) → Nat → List (AV × AV × Nat)
  | [], _ => []
  | e :: r, i => (pairA e.1, pairA e.2, i) :: mapE r (i + 1)
theorem mapE_length : ∀ (es : List ((Int × Int) × (Int × Int))) (i : Nat), (mapE es i).length = es.length := by
  intro es
  induction es with
  | nil => intro i; rfl
  | cons e r ih => intro i; simp [mapE, ih]
theorem mapE_append : ∀ (es fs : List ((Int × Int) × (Int × Int))) (i : Nat), mapE (es ++ fs) i = mapE es i ++ mapE fs (i + es.length) := by
  intro es
  induction es with
  | nil => intro fs i; simp [mapE]
  | cons e r ih =>
    intro fs i
    have : i + 1 + r.length = i + (r.length + 1) := by omega
    simp [mapE, ih, this]
def idxE (k : Int × Int) : List ((Int × Int) × (Int × Int)) → Nat → Option Nat
  | [], _ => .none
  | e :: r, i => if e.1 = k then some i else idxE k r (i + 1)
theorem keyEq_pair (a b : Int) (k : Int × Int) : keyEq [.int .i64 a, .int .i64 b] (pairA k) = some (decide (k = (a, b))) := by
  obtain ⟨c, d⟩ := k
  simp only [keyEq, pairA, cellsEq_cons, cellsEq_nil, Option.map_some]
  simp only [Prod.mk.injEq, Option.some.injEq, Bool.and_true]
  by_cases h1 : a = c
  · by_cases h2 : b = d
    · simp [h1, h2]
    · have h2' : ¬ d = b := fun e => h2 e.symm
      simp [h1, h2, h2']
  · have h1' : ¬ c = a := fun e => h1 e.symm
    simp [h1, h1']
theorem findM_mapE (a b : Int) : ∀ (es : List ((Int × Int) × (Int × Int))) (i j : Nat), findM [.int .i64 a, .int .i64 b] (mapE es j) i = some (idxE (a, b) es i) := by
  intro es
  induction es with
  | nil => intro i j; rfl
  | cons e r ih =>
    intro i j
    simp only [mapE, findM, keyEq_pair, idxE]
    by_cases h : e.1 = (a, b)
    · simp [h]
    · simp [h, ih]
theorem idxE_look (k : Int × Int) : ∀ (es : List ((Int × Int) × (Int × Int))) (i j : Nat), match idxE k es i with
    | some m => ∃ v, lookF es k = some v ∧ i ≤ m ∧ m < i + es.length ∧ ∀ hm : m - i < (mapE es j).length, ((mapE es j)[m - i]).2.1 = pairA v
    | .none => lookF es k = .none := by
  intro es
  induction es with
  | nil => intro i j; simp [idxE, lookF]
  | cons e r ih =>
    intro i j
    by_cases h : e.1 = k
    · simp only [idxE, h, if_true]
      refine ⟨e.2, by simp [lookF, h], Nat.le_refl _, by simp, fun hm => by simp [mapE]⟩
    · simp only [idxE, h, if_false]
      have hk : lookF (e :: r) k = lookF r k := by
        have : (e.1 == k) = false := by simpa using h
        simp [lookF, this]
      have := ih (i + 1) (j + 1)
      cases hx : idxE k r (i + 1) with
      | none => rw [hx] at this; simp only at this ⊢; rw [hk]; exact this
      | some m =>
        rw [hx] at this
        simp only at this ⊢
        obtain ⟨v, h1, h2, h3, h4⟩ := this
        refine ⟨v, by rw [hk]; exact h1, by omega, by simp; omega, fun hm => ?_⟩
        obtain ⟨q, hq⟩ : ∃ q, m - i = q + 1 := ⟨m - i - 1, by omega⟩
        have hq2 : m - (i + 1) = q := by omega
        have hm2 : m - (i + 1) < (mapE r (j + 1)).length := by
          rw [mapE_length] at hm ⊢; simp at hm; omega
        have := h4 hm2
        simp only [hq2] at this
        simp only [hq, mapE, List.getElem_cons_succ]
        exact this

def lookV (z : AV) : Option (Int × Int) → AV
  | some v => .tup [pairA v, .bool true]
  | .none => .tup [z, .bool false]
@[go_sem] theorem lookV_n {z} : lookV z .none = .tup [z, .bool false] := by simp [lookV]
@[go_sem] theorem lookV_s {z v} : lookV z (some v) = .tup [.agg [.int .i64 v.1, .int .i64 v.2], .bool true] := by simp [lookV, pairA]
theorem LookX.kv {es : List ((Int × Int) × (Int × Int))} {a b : Int} {z : AV} {K : AV → Prop} {u : Tok K} (h : K (lookV z (lookF es (a, b)))) : LookX [.int .i64 a, .int .i64 b] (mapE es 0) true z K u := by
  refine LookX.of (findM_mapE a b es 0 0) ?_
  have := idxE_look (a, b) es 0 0
  cases hx : idxE (a, b) es 0 with
  | none => rw [hx] at this; simp only at this; rw [this] at h; exact h
  | some m =>
    rw [hx] at this
    obtain ⟨v, h1, h2, h3, h4⟩ := this
    rw [h1] at h
    have hm : m < (mapE es 0).length := by rw [mapE_length]; omega
    refine ⟨hm, ?_⟩
    have := h4 (by simpa using hm)
    simp only [Nat.sub_zero] at this
    rw [this]
    exact h
theorem EntryX.kv {H : Hp} {L : Lab} {es : List ((Int × Int) × (Int × Int))} {n : Nat} {z : AV} {a b : Int} {K : AV → Hp → Prop} {u : Tok K} (hn : lookF es (a, b) = .none)
    (h : K (.tup [z, .int .i64 n]) (H.set L (.mp (mapE es 0 ++ [(.agg [.int .i64 a, .int .i64 b], z, n)]) (n + 1)))) : EntryX H L (mapE es 0) n z [.int .i64 a, .int .i64 b] K u := by
  refine EntryX.of (findM_mapE a b es 0 0) ?_
  have := idxE_look (a, b) es 0 0
  cases hx : idxE (a, b) es 0 with
  | none => exact h
  | some m =>
    rw [hx] at this
    obtain ⟨v, h1, _⟩ := this
    rw [hn] at h1; exact absurd h1 (by simp)
theorem findB_mapE (n : Nat) (e : AV × AV × Nat) (he : e.2.2 = n) : ∀ (es : List ((Int × Int) × (Int × Int))) (i j : Nat), j + es.length ≤ n → findB n (mapE es j ++ [e]) i = some (i + es.length) := by
  intro es
  induction es with
  | nil => intro i j _; simp [mapE, findB, he]
  | cons x r ih =>
    intro i j hj
    simp only [List.length_cons] at hj
    have h1 : ¬ ((j : Nat) : Int) = (n : Int) := by omega
    simp only [mapE, List.cons_append, findB, h1, if_false, List.length_cons]
    rw [ih (i + 1) (j + 1) (by omega)]
    congr 1; omega
theorem StoreX.kv {H : Hp} {L : Lab} {es : List ((Int × Int) × (Int × Int))} {n : Nat} {z : AV} {a b c d : Int} {K : Hp → Prop} {u : Tok K} (hn : n = es.length)
    (h : K (H.set L (.mp (mapE (es ++ [((a, b), (c, d))]) 0) (n + 1)))) : StoreX H L (mapE es 0 ++ [(.agg [.int .i64 a, .int .i64 b], z, n)]) (n + 1) (.agg [.int .i64 c, .int .i64 d]) (n : Int) K u := by
  refine StoreX.of (findB_mapE n _ rfl es 0 0 (by omega)) ?_
  refine ⟨by simp [mapE_length], ?_⟩
  have e1 : (mapE es 0 ++ [(AV.agg [.int .i64 a, .int .i64 b], z, n)])[0 + es.length]'(by simp [mapE_length]) = (AV.agg [.int .i64 a, .int .i64 b], z, n) := by
    rw [List.getElem_append_right (by simp [mapE_length])]; simp [mapE_length]
  rw [e1]
  have e2 : (mapE es 0 ++ [(AV.agg [.int .i64 a, .int .i64 b], z, n)]).set (0 + es.length) (AV.agg [.int .i64 a, .int .i64 b], AV.agg [.int .i64 c, .int .i64 d], n) = mapE (es ++ [((a, b), (c, d))]) 0 := by
    rw [List.set_append_right _ _ (by simp [mapE_length]), mapE_append]
    simp [mapE_length, mapE, pairA, hn]
  simp only [e2]
  exact h

/-- What was found outside these labels is as it was. -/
def Fr (S : List Lab) (h H : Hp) : Prop := ∀ M, M ∈ S ∨ h.con M = .none ∨ H.con M = h.con M
theorem Fr.refl (S : List Lab) (h : Hp) : Fr S h h := fun _ => .inr (.inr rfl)
theorem Fr.alloc {S : List Lab} {h H : Hp} (k : Fr S h H) (f s : Nat) (c : Con) : Fr S h (H.alloc f s c) := by
  intro M
  rcases k M with h1 | h1 | h1
  · exact .inl h1
  · exact .inr (.inl h1)
  · by_cases hE : M = ⟨f, s, H.cnt f s⟩
    · right; left
      rw [← h1, hE]; exact H.ok _ (by simp)
    · right; right
      rw [← h1]; exact if_neg hE
theorem Fr.set {S : List Lab} {h H : Hp} (k : Fr S h H) {L : Lab} (hL : L ∈ S ∨ h.con L = .none) (c : Con) : Fr S h (H.set L c) := by
  intro M
  by_cases hE : M = L
  · subst hE
    rcases hL with h1 | h1
    · exact .inl h1
    · exact .inr (.inl h1)
  · rcases k M with h1 | h1 | h1
    · exact .inl h1
    · exact .inr (.inl h1)
    · right; right; rw [← h1]; exact if_neg hE
theorem Fr.new {S : List Lab} {h H : Hp} (k : Fr S h H) (f s : Nat) : (⟨f, s, H.cnt f s⟩ : Lab) ∈ S ∨ h.con ⟨f, s, H.cnt f s⟩ = .none := by
  rcases k ⟨f, s, H.cnt f s⟩ with h2 | h2 | h2
  · exact .inl h2
  · exact .inr h2
  · right; rw [← h2]; exact H.ok _ (by simp)
theorem Fr.var {S : List Lab} {h H : Hp} (k : Fr S h H) (f s : Nat) (c c' : Con) : Fr S h ((H.alloc f s c).set ⟨f, s, H.cnt f s⟩ c') := (k.alloc f s c).set (k.new f s) c'
theorem Fr.keeps {S : List Lab} {g h H : Hp} (k : Fr S h H) (hk : Keeps g h) (hS : ∀ L ∈ S, g.con L = .none) : Keeps g H := by
  intro M
  rcases hk M with h1 | h1
  · exact .inl h1
  · rcases k M with h2 | h2 | h2
    · exact .inl (hS M h2)
    · left; rw [← h1]; exact h2
    · right; rw [h2, h1]
theorem con_ne {h : Hp} {A B : Lab} {a b : Con} (hA : h.con A = a) (hB : h.con B = b) (hab : a ≠ b) : (A = B) = False := by
  simp only [eq_iff_iff, iff_false]
  intro hE; subst hE; exact hab (hA.symm.trans hB)
theorem ne_con {h : Hp} {A B : Lab} {a b : Con} (hA : h.con A = a) (hB : h.con B = b) (hab : a ≠ b) : (B = A) = False := by
  have := con_ne hA hB hab
  rw [← this, eq_iff_iff]; exact ⟨fun e => e.symm, fun e => e.symm⟩
theorem CallX.at {P : Program} {f : FuncId} {args : List AV} {h : Hp} {K : AV → Hp → Prop} {u : Tok K} {r : AV} (hc : CallK P f args h (fun r' h' => r' = r ∧ h' = h)) (hk : K r h) : CallX P f args h K u :=
  CallX.of (hc.mono fun _ _ ⟨h1, h2⟩ => by rw [h1, h2]; exact hk)
end Go.T
/- Plain: in a history that can be the queue goes over no request twice, and over the grants in their order. -/
namespace Go.Gh
set_option linter.unusedSimpArgs false

def nx (obj : Int) (ns : List Note) (a : Int × Int) : Option (Int × Int) := (ns.find? (isNext obj a.1 a.2)).map (fun x => (x.to, x.next))
theorem queueL_succ (obj : Int) (ns : List Note) (k : Nat) (a : Int × Int) : queueL obj ns (k + 1) a = a :: (match nx obj ns a with
    | some b => queueL obj ns k b
    | none => []) := by
  simp only [queueL, nx]
  cases ns.find? (isNext obj a.1 a.2) <;> rfl
theorem queueL_step (obj : Int) (ns : List Note) : ∀ (k : Nat) (a : Int × Int) (j : Nat) (h : j + 1 < (queueL obj ns k a).length), nx obj ns ((queueL obj ns k a)[j]) = some ((queueL obj ns k a)[j + 1]) := by
  intro k
  induction k with
  | zero => intro a j h; simp [queueL] at h
  | succ k ih =>
    intro a j h
    have e := queueL_succ obj ns k a
    cases hn : nx obj ns a with
    | none => rw [hn] at e; simp only [e] at h; simp at h
    | some b =>
      rw [hn] at e
      simp only [e] at h ⊢
      cases j with
      | zero =>
        simp only [List.getElem_cons_zero, List.getElem_cons_succ, hn]
        have hb : (queueL obj ns k b)[0]? = some b := by
          cases k with
          | zero => simp [queueL] at h
          | succ k => rw [queueL_succ]; rfl
        rw [List.getElem?_eq_getElem (by simp at h; omega)] at hb
        exact hb.symm
      | succ j =>
        simp only [List.getElem_cons_succ]
        exact ih b j (by simpa using h)
theorem queueL_more (obj : Int) (ns : List Note) : ∀ (k : Nat) (a b : Int × Int) (j : Nat) (h : j < (queueL obj ns k a).length), nx obj ns ((queueL obj ns k a)[j]) = some b → j + 1 < k → (queueL obj ns k a)[j + 1]? = some b := by
  intro k
  induction k with
  | zero => intro a b j h; simp [queueL] at h
  | succ k ih =>
    intro a b j h hb hk
    have e := queueL_succ obj ns k a
    cases j with
    | zero =>
      simp only [e, List.getElem_cons_zero] at hb
      rw [hb] at e
      rw [e]
      simp only [List.getElem?_cons_succ]
      cases k with
      | zero => omega
      | succ k => rw [queueL_succ]; rfl
    | succ j =>
      cases hn : nx obj ns a with
      | none => rw [hn] at e; simp only [e] at h; simp at h
      | some c =>
        rw [hn] at e
        simp only [e] at h hb ⊢
        simp only [List.getElem_cons_succ] at hb
        simp only [List.getElem?_cons_succ]
        exact ih c b j (by simpa using h) hb (by omega)

section
variable {homes : List Int} {ns : List Note} {obj : Int}
def Hist (homes : List Int) (ns : List Note) : Prop := ∀ j, j < ns.length → goodAt homes ns j = true
theorem Hist.can (H : Hist homes ns) {j : Nat} (hj : j < ns.length) (ho : ns[j].obj = obj) : canB (homes.getD obj.toNat 0) (ns.take j) ns[j] = true := by
  have := H j hj
  rw [goodAt_eq hj] at this
  simp only [checkB, Bool.and_eq_true] at this
  rw [ho] at this
  exact this.2
theorem can_led {home : Int} {n : Note} (h : canB home ns n = true) (hk : n.kind = 2) : ns.any (clash n) = false ∧ n.next ≠ 0 := by
  by_cases hc : n.kind ≠ 2 ∧ (n.to ≠ 0 ∨ n.next ≠ 0)
  · exact absurd hk hc.1
  · rw [canB, if_neg hc, if_neg (by omega), if_pos hk] at h
    simp only [Bool.and_eq_true, Bool.not_eq_true', bne_iff_ne, ne_eq] at h
    exact ⟨h.1.1.1, h.1.1.2⟩
theorem can_got {home : Int} {n : Note} (h : canB home ns n = true) (hk : n.kind = 4) : ∃ x, ns.find? (isNext n.obj (atOf home n.obj ns).1 (atOf home n.obj ns).2.1) = some x ∧ x.to = n.node ∧ x.next = n.num := by
  by_cases hc : n.kind ≠ 2 ∧ (n.to ≠ 0 ∨ n.next ≠ 0)
  · rw [canB, if_pos hc] at h; simp at h
  · rw [canB, if_neg hc, if_neg (by omega), if_neg (by omega), if_neg (by omega), if_pos hk] at h
    cases hx : ns.find? (isNext n.obj (atOf home n.obj ns).1 (atOf home n.obj ns).2.1) with
    | none => rw [hx] at h; simp at h
    | some x =>
      rw [hx] at h
      simp only [Bool.and_eq_true, beq_iff_eq] at h
      exact ⟨x, rfl, h.1.2, h.2⟩
theorem nx_some {a c : Int × Int} (h : nx obj ns a = some c) : ∃ i, ∃ hi : i < ns.length, ns[i].kind = 2 ∧ ns[i].obj = obj ∧ (ns[i].node, ns[i].num) = a ∧ (ns[i].to, ns[i].next) = c := by
  unfold nx at h
  rw [Option.map_eq_some_iff] at h
  obtain ⟨x, h1, h2⟩ := h
  rw [List.find?_eq_some_iff_getElem] at h1
  obtain ⟨hp, i, hi, rfl, _⟩ := h1
  simp only [isNext, Bool.and_eq_true, beq_iff_eq] at hp
  exact ⟨i, hi, hp.1.1.1, hp.1.1.2, Prod.ext hp.1.2 hp.2, h2⟩
theorem uniq (H : Hist homes ns) {i j : Nat} (hi : i < ns.length) (hj : j < ns.length) (hij : i < j) (ki : ns[i].kind = 2) (oi : ns[i].obj = obj) (kj : ns[j].kind = 2) (oj : ns[j].obj = obj) : (ns[i].to, ns[i].next) ≠ (ns[j].to, ns[j].next) := by
  intro he
  have hc := (can_led (H.can hj oj) kj).1
  rw [List.any_eq_false] at hc
  have hm : ns[i] ∈ ns.take j := by rw [List.mem_take_iff_getElem]; exact ⟨i, by omega, rfl⟩
  have := hc _ hm
  apply this
  have h1 := (Prod.mk.inj he).1
  have h2 := (Prod.mk.inj he).2
  simp [clash, ki, oi, oj, h1, h2]
theorem nx_inj (H : Hist homes ns) {a b c : Int × Int} (h1 : nx obj ns a = some c) (h2 : nx obj ns b = some c) : a = b := by
  obtain ⟨i, hi, ki, oi, ai, ci⟩ := nx_some h1
  obtain ⟨j, hj, kj, oj, aj, cj⟩ := nx_some h2
  rcases Nat.lt_trichotomy i j with h | h | h
  · exact absurd (ci.trans cj.symm) (uniq H hi hj h ki oi kj oj)
  · subst h; exact ai.symm.trans aj
  · exact absurd (cj.trans ci.symm) (uniq H hj hi h kj oj ki oi)
theorem nx_pos (H : Hist homes ns) {a c : Int × Int} (h : nx obj ns a = some c) : c.2 ≠ 0 := by
  obtain ⟨i, hi, ki, oi, ai, ci⟩ := nx_some h
  have := (can_led (H.can hi oi) ki).2
  rw [← ci]; exact this

theorem queue_first (ho : 0 ≤ obj ∧ obj < homes.length) : (queueR homes ns obj)[0]? = some (homes.getD obj.toNat 0, 0) := by
  unfold queueR; rw [if_pos ho, queueL_succ]; rfl
theorem queue_ne (H : Hist homes ns) (ho : 0 ≤ obj ∧ obj < homes.length) : ∀ (i j : Nat) (hi : i < (queueR homes ns obj).length) (hj : j < (queueR homes ns obj).length), i < j → (queueR homes ns obj)[i] ≠ (queueR homes ns obj)[j] := by
  have hst : ∀ (j : Nat) (h : j + 1 < (queueR homes ns obj).length), nx obj ns ((queueR homes ns obj)[j]) = some ((queueR homes ns obj)[j + 1]) := by
    have hq : queueR homes ns obj = queueL obj ns (ns.length + 1) (homes.getD obj.toNat 0, 0) := by unfold queueR; rw [if_pos ho]
    simp only [hq]; exact queueL_step obj ns _ _
  intro i
  induction i with
  | zero =>
    intro j hi hj hij he
    have h0 := queue_first (ns := ns) ho
    rw [List.getElem?_eq_getElem hi] at h0
    obtain ⟨m, rfl⟩ : ∃ m, j = m + 1 := ⟨j - 1, by omega⟩
    have := nx_pos H (hst m hj)
    rw [← he] at this
    have h0' := Option.some.inj h0
    rw [h0'] at this
    exact this rfl
  | succ i ih =>
    intro j hi hj hij he
    obtain ⟨m, rfl⟩ : ∃ m, j = m + 1 := ⟨j - 1, by omega⟩
    have h1 := hst i hi
    have h2 := hst m hj
    rw [← he] at h2
    exact ih m (by omega) (by omega) (by omega) (nx_inj H h1 h2)

def isGot (obj : Int) (x : Note) : Bool := x.kind == 4 && x.obj == obj
def gotN (obj : Int) (ns : List Note) : Nat := (ns.filter (isGot obj)).length
theorem gotN_step (i : Nat) (h : i < ns.length) : gotN obj (ns.take (i + 1)) = if isGot obj ns[i] then gotN obj (ns.take i) + 1 else gotN obj (ns.take i) := by
  unfold gotN
  rw [List.take_succ_eq_append_getElem h, List.filter_append]
  by_cases hc : isGot obj ns[i]
  · simp [hc]
  · simp [hc]
theorem gotN_le (i : Nat) : gotN obj (ns.take i) ≤ i := by
  unfold gotN
  exact Nat.le_trans (List.length_filter_le _ _) (by simp; omega)
theorem got_at (H : Hist homes ns) (ho : 0 ≤ obj ∧ obj < homes.length) : ∀ i, i ≤ ns.length → (queueR homes ns obj)[gotN obj (ns.take i)]? = some ((atOf (homes.getD obj.toNat 0) obj (ns.take i)).1, (atOf (homes.getD obj.toNat 0) obj (ns.take i)).2.1) := by
  intro i
  induction i with
  | zero => intro _; simpa [gotN, atOf] using queue_first (ns := ns) ho
  | succ i ih =>
    intro hi
    have hlt : i < ns.length := by omega
    have h1 := ih (by omega)
    rw [gotN_step i hlt, atOf_step _ _ ns i hlt]
    by_cases hg : isGot obj ns[i]
    · simp only [isGot, Bool.and_eq_true, beq_iff_eq] at hg
      have hcan := H.can hlt hg.2
      obtain ⟨x, hx, h2, h3⟩ := can_got hcan hg.1
      rw [hg.2] at hx
      have hxx : nx obj ns ((atOf (homes.getD obj.toNat 0) obj (ns.take i)).1, (atOf (homes.getD obj.toNat 0) obj (ns.take i)).2.1) = some (x.to, x.next) := by
        unfold nx
        have : ns.find? (isNext obj (atOf (homes.getD obj.toNat 0) obj (ns.take i)).1 (atOf (homes.getD obj.toNat 0) obj (ns.take i)).2.1) = some x := by
          have e : ns.find? (isNext obj (atOf (homes.getD obj.toNat 0) obj (ns.take i)).1 (atOf (homes.getD obj.toNat 0) obj (ns.take i)).2.1) = (ns.take i ++ ns.drop i).find? (isNext obj (atOf (homes.getD obj.toNat 0) obj (ns.take i)).1 (atOf (homes.getD obj.toNat 0) obj (ns.take i)).2.1) := by rw [List.take_append_drop]
          rw [e, List.find?_append, hx]; rfl
        rw [this]; rfl
      rw [if_pos (by simp [isGot, hg])]
      have hl := (List.getElem?_eq_some_iff.1 h1).1
      have hv := (List.getElem?_eq_some_iff.1 h1).2
      have hle := gotN_le (obj := obj) (ns := ns) i
      have key : (queueR homes ns obj)[gotN obj (ns.take i) + 1]? = some (x.to, x.next) := by
        have hq : queueR homes ns obj = queueL obj ns (ns.length + 1) (homes.getD obj.toNat 0, 0) := by unfold queueR; rw [if_pos ho]
        simp only [hq] at hl hv ⊢
        exact queueL_more obj ns _ _ _ _ hl (by rw [hv]; exact hxx) (by omega)
      rw [key, h2, h3]
      simp [atStep, hg]
    · rw [if_neg hg, h1]
      simp only [isGot, Bool.and_eq_true, beq_iff_eq] at hg
      unfold atStep
      rw [if_neg (fun hc => hg ⟨hc.2, hc.1⟩)]
      split <;> rfl
theorem got_next (H : Hist homes ns) (ho : 0 ≤ obj ∧ obj < homes.length) (i : Nat) (hi : i < ns.length) (hg : isGot obj ns[i] = true) : (queueR homes ns obj)[gotN obj (ns.take i) + 1]? = some (ns[i].node, ns[i].num) := by
  have := got_at H ho (i + 1) (by omega)
  rw [gotN_step i hi, if_pos hg, atOf_step _ _ ns i hi] at this
  rw [this]
  simp only [isGot, Bool.and_eq_true, beq_iff_eq] at hg
  simp [atStep, hg]
theorem hist_of_ok (h : checkR homes ns = (0, 0)) : Hist homes ns := by
  intro j hj
  unfold checkR at h
  split at h
  · simp at h
  · split at h
    · simp at h
    · rename_i hf
      rw [List.find?_range_eq_none] at hf
      have := hf j hj
      simpa using this
theorem checkR_err (homes : List Int) (ns : List Note) : (checkR homes ns).2 = 0 → checkR homes ns = (0, 0) := by
  unfold checkR
  split
  · simp
  · split
    · simp
    · simp
end
end Go.Gh
/- What a law is handed: plain values out of the memory, type by type. -/
namespace Go.T
open Go Go.RowKit

def NoE : AV → Value → Prop := fun _ _ => False
def InB (w : World) (b : Nat) : Prop := b < w.heap.size
/-- A value of type t in memory is read as one of X. -/
def Opn (P : Program) (t : TypeId) (X : Type) (e : X → List AV) (V : X → Prop) : Prop :=
  ∀ (H : Type) (enc : TypeId × Value → H) (w : World) (spare : Nat → Bool) (held : Bool) (fuel : Nat) (cs : List Value) (x : DataW H × List MemPlace), DataW.trod enc P w 0 spare held fuel t cs = some x →
    ∃ y : X, V y ∧ (e y).length = cs.length ∧ ∀ j, j < cs.length → R w (InB w) NoE ((e y).getD j .undef) (cs.getD j undef) ∧ (cs.getD j undef).oneCell' = true
def OpnFs (P : Program) (k n : Nat) (fs : List Field) (X : Type) (e : X → List AV) (V : X → Prop) : Prop :=
  ∀ (H : Type) (enc : TypeId × Value → H) (w : World) (spare : Nat → Bool) (held : Bool) (fuel : Nat) (cs : List Value), cs.length = n →
    (∀ f ∈ fs, ∃ x, DataW.trod enc P w 0 spare held fuel f.type ((cs.drop f.offset).take (P.cellsOf f.type)) = some x) →
    ∃ y : X, V y ∧ k + (e y).length = n ∧ ∀ j, j < (e y).length → R w (InB w) NoE ((e y).getD j .undef) (cs.getD (k + j) undef) ∧ (cs.getD (k + j) undef).oneCell' = true

section
variable {P : Program} {t : TypeId}
theorem Opn.int {k : IntKind} (ht : P.underlying t = some (.int k)) : Opn P t Int (fun n => [.int k n]) (fun n => (Lit.int k n).wf = true) := by
  intro H enc w spare held fuel cs x h
  obtain ⟨n, rfl, _, hw⟩ := DataW.trod_int ht h
  refine ⟨n, hw, rfl, fun j hj => ?_⟩
  have : j = 0 := by simp at hj; omega
  subst this
  exact ⟨.int k n, rfl⟩
theorem Opn.bool (ht : P.underlying t = some .bool) : Opn P t Bool (fun b => [.bool b]) (fun _ => True) := by
  intro H enc w spare held fuel cs x h
  obtain ⟨b, rfl, _⟩ := DataW.trod_bool ht h
  refine ⟨b, trivial, rfl, fun j hj => ?_⟩
  have : j = 0 := by simp at hj; omega
  subst this
  exact ⟨.bool b, rfl⟩
theorem Opn.str (ht : P.underlying t = some .string) : Opn P t ByteArray (fun s => [.str s]) (fun s => s.size ≤ maxLen) := by
  intro H enc w spare held fuel cs x h
  obtain ⟨s, rfl, _, hs⟩ := DataW.trod_string ht h
  refine ⟨s, hs, rfl, fun j hj => ?_⟩
  have : j = 0 := by simp at hj; omega
  subst this
  exact ⟨.str s, rfl⟩

theorem Opn.iso {X Y : Type} {e : X → List AV} {V : X → Prop} {e' : Y → List AV} {V' : Y → Prop} (o : Opn P t X e V) (g : X → Y) (he : ∀ x, e' (g x) = e x) (hV : ∀ x, V x → V' (g x)) : Opn P t Y e' V' := by
  intro H enc w spare held fuel cs x h
  obtain ⟨y, h1, h2, h3⟩ := o H enc w spare held fuel cs x h
  exact ⟨g y, hV y h1, by rw [he]; exact h2, fun j hj => by rw [he]; exact h3 j hj⟩

/-- Cells as one value. -/
def pack (g : Bool) (as : List AV) : AV := if g then .agg as else as.getD 0 .undef

theorem cells_row {w : World} {a : Addr} {n : Nat} {cs : List Value} (h : w.cells? 0 a n = some cs) : cs.length = n ∧ ∀ i, i < n → w.cell? (a.add i) = some (cs.getD i undef) := by
  unfold World.cells? at h
  rw [if_pos (Nat.zero_le _)] at h
  have hl := mapM_some_length h
  simp at hl
  refine ⟨hl, fun i hi => ?_⟩
  have h2 := mapM_some_get h i i (by simp [hi])
  rw [h2]
  have : i < cs.length := by omega
  simp [this]

theorem list_choose {X : Type} {Q : Nat → X → Prop} : ∀ n, (∀ i, i < n → ∃ y, Q i y) → ∃ ys : List X, ys.length = n ∧ ∀ i, (hi : i < ys.length) → Q i ys[i] := by
  intro n
  induction n with
  | zero => intro _; exact ⟨[], rfl, fun i hi => by simp at hi⟩
  | succ n ih =>
    intro h
    obtain ⟨ys, h1, h2⟩ := ih (fun i hi => h i (by omega))
    obtain ⟨y, hy⟩ := h n (by omega)
    refine ⟨ys ++ [y], by simp [h1], fun i hi => ?_⟩
    rw [List.getElem_append]
    split
    · rename_i hlt; exact h2 i hlt
    · rename_i hge
      have : i = n := by simp at hi; omega
      subst this
      simpa using hy

theorem Opn.slice {el : TypeId} {sz : Nat} {X : Type} {e : X → List AV} {V : X → Prop} (ht : P.underlying t = some (.slice el)) (hc : P.cellsOf el = sz) (hs : 0 < sz) (g : Bool) (o : Opn P el X e V) (hp : ∀ x, V x → (pack g (e x)).cells = e x) :
    Opn P t (List X) (fun ys => [.l false sz (ys.map (fun x => pack g (e x)))]) (fun ys => (∀ x ∈ ys, V x) ∧ ys.length ≤ maxLen) := by
  intro H enc w spare held fuel cs x h
  rcases DataW.trod_slice ht h with ⟨rfl, _⟩ | ⟨a, len, cap, elems, rest, n, _, rfl, _, _, hl, hm, hlen, hel, _, _⟩
  · refine ⟨[], ⟨fun x hx => by simp at hx, by simp⟩, rfl, fun j hj => ?_⟩
    have : j = 0 := by simp at hj; omega
    subst this
    exact ⟨.l0 _ _ _ _ (fun h => by simp at h), rfl⟩
  · rw [hc] at hel
    have each : ∀ i, i < len → ∃ y : X, V y ∧ (e y).length = sz ∧ ∃ cs', w.cells? 0 (a.add (i * sz)) sz = some cs' ∧ cs'.length = sz ∧ ∀ j, j < sz → R w (InB w) NoE ((e y).getD j .undef) (cs'.getD j undef) ∧ (cs'.getD j undef).oneCell' = true := by
      intro i hi
      have h1 := hel i hi
      have h2 : i < elems.length := by omega
      rw [List.getElem?_eq_getElem h2] at h1
      rw [Option.bind_eq_some_iff] at h1
      obtain ⟨cs', hcs, htr⟩ := h1
      obtain ⟨y, g1, g2, g3⟩ := o H enc w spare held n cs' _ htr
      have hl' := (cells_row hcs).1
      exact ⟨y, g1, by omega, cs', hcs, hl', fun j hj => g3 j (by omega)⟩
    obtain ⟨ys, hys, hq⟩ := list_choose len each
    refine ⟨ys, ⟨fun x hx => ?_, by omega⟩, rfl, fun j hj => ?_⟩
    · obtain ⟨i, hi, rfl⟩ := List.getElem_of_mem hx
      exact (hq i hi).1
    have : j = 0 := by simp at hj; omega
    subst this
    refine ⟨?_, rfl⟩
    show R w (InB w) NoE (.l false sz (ys.map (fun x => pack g (e x)))) (.slice (some a) len cap)
    by_cases h0 : len = 0
    · subst h0
      have : ys = [] := List.length_eq_zero_iff.1 hys
      subst this
      exact .l0 _ _ _ _ (fun h => by simp at h)
    have hy0 : ys ≠ [] := fun hE => by rw [hE] at hys; simp at hys; omega
    have cellAt : ∀ i j, (hi : i < ys.length) → j < sz → w.cell? ((a.add (i * sz)).add j) = some ((Classical.choose (hq i hi).2.2).getD j undef) := fun i j hi hj =>
      (cells_row (Classical.choose_spec (hq i hi).2.2).1).2 j hj
    have hlt : 0 < ys.length := by omega
    have hspot : a.spot = .none := by
      have := cellAt 0 0 hlt hs
      unfold World.cell? at this
      split at this
      · split at this
        · simp at this
        · rename_i hsp
          cases hc : a.spot with
          | none => rfl
          | some z => exact absurd (by simp [Addr.add, hc]) hsp
      · simp at this
    have hblk : a.block < w.heap.size := by
      have := cellAt 0 0 hlt hs
      unfold World.cell? at this
      split at this
      · rename_i hh
        have h9 := (Array.getElem?_eq_some_iff.1 hh).1
        cases hsp : a.spot <;> simpa [Addr.add, hsp] using h9
      · simp at this
    obtain ⟨ab, ao, asp⟩ := a
    simp only at hspot hblk
    subst hspot
    have hadd : ∀ i j, ((Addr.mk ab ao .none).add (i * sz)).add j = ⟨ab, ao + (i * sz + j), .none⟩ := fun i j => by
      by_cases h1 : i * sz = 0 <;> by_cases h2 : j = 0 <;> simp [Addr.add, h1, h2, Nat.add_assoc]
    have := R.l (w := w) (B := InB w) (E := NoE) false sz (ys.map (fun x => pack g (e x))) ab ao cap (fun i j => if hi : i < ys.length then (Classical.choose (hq i hi).2.2).getD j undef else undef) (by simpa using hy0) (fun h => by simp at h) (by simp; omega) hblk
      (fun i hi => by
        have hi' : i < ys.length := by simpa using hi
        simp only [List.getElem_map]
        rw [hp _ (hq i hi').1]; exact (hq i hi').2.1)
      (fun i j hi hj => by
        have hi' : i < ys.length := by simpa using hi
        simp only [hi', dif_pos]
        rw [← hadd]; exact cellAt i j hi' hj)
      (fun i j hi hj => by
        have hi' : i < ys.length := by simpa using hi
        simp only [hi', dif_pos, List.getElem_map]
        rw [hp _ (hq i hi').1]
        exact ((Classical.choose_spec (hq i hi').2.2).2.2 j hj).1)
      (fun i j hi hj => by
        have hi' : i < ys.length := by simpa using hi
        simp only [hi', dif_pos]
        exact ((Classical.choose_spec (hq i hi').2.2).2.2 j hj).2)
    rw [List.length_map, hys] at this
    exact this

theorem Opn.struct {fs : Array Field} {n : Nat} {X : Type} {e : X → List AV} {V : X → Prop} (ht : P.underlying t = some (.struct fs)) (hc : P.cellsOf t = n) (o : OpnFs P 0 n fs.toList X e V) : Opn P t X e V := by
  intro H enc w spare held fuel cs x h
  obtain ⟨xs, m, rfl, _, hl, hx, hf⟩ := DataW.trod_struct ht h
  obtain ⟨y, h1, h2, h3⟩ := o H enc w spare held m cs (by omega) (fun f hfm => by
    obtain ⟨i, hi, rfl⟩ := List.getElem_of_mem hfm
    have hi' : i < fs.size := by simpa using hi
    have h1 := hf i fs[i] (by simp [hi'])
    have h2 : i < xs.length := by omega
    rw [List.getElem?_eq_getElem h2] at h1
    exact ⟨_, by simpa using h1⟩)
  exact ⟨y, h1, by omega, fun j hj => by have := h3 j (by omega); simpa using this⟩
theorem Opn.array2 {el : TypeId} {X : Type} {e : X → List AV} {V : X → Prop} (ht : P.underlying t = some (.array 2 el)) (hc : P.cellsOf t = 2) (hce : P.cellsOf el = 1) (o : Opn P el X e V) : Opn P t (X × X) (fun y => e y.1 ++ e y.2) (fun y => V y.1 ∧ V y.2) := by
  intro H enc w spare held fuel cs x h
  obtain ⟨xs, m, rfl, _, hl, hx, hf⟩ := DataW.trod_array ht h
  rw [hc] at hl
  have get : ∀ i, i < 2 → ∃ y : X, V y ∧ (e y).length = 1 ∧ R w (InB w) NoE ((e y).getD 0 .undef) (cs.getD i undef) ∧ (cs.getD i undef).oneCell' = true := by
    intro i hi
    have h1 := hf i hi
    have h2 : i < xs.length := by omega
    rw [List.getElem?_eq_getElem h2, hce] at h1
    obtain ⟨y, g1, g2, g3⟩ := o H enc w spare held m _ _ h1
    have hlen : ((cs.drop (i * 1)).take 1).length = 1 := by simp; omega
    have hg : ((cs.drop (i * 1)).take 1).getD 0 undef = cs.getD i undef := by simp [List.getD_eq_getElem?_getD]
    have := g3 0 (by omega)
    rw [hg] at this
    exact ⟨y, g1, by omega, this⟩
  obtain ⟨y0, a1, a2, a3⟩ := get 0 (by omega)
  obtain ⟨y1, b1, b2, b3⟩ := get 1 (by omega)
  refine ⟨(y0, y1), ⟨a1, b1⟩, by simp; omega, fun j hj => ?_⟩
  have hj2 : j = 0 ∨ j = 1 := by omega
  rcases hj2 with rfl | rfl
  · have e1 : (e y0 ++ e y1).getD 0 .undef = (e y0).getD 0 .undef := by
      rw [List.getD_eq_getElem?_getD, List.getElem?_append_left (by omega), ← List.getD_eq_getElem?_getD]
    rw [e1]; exact a3
  · have e1 : (e y0 ++ e y1).getD 1 .undef = (e y1).getD 0 .undef := by
      rw [List.getD_eq_getElem?_getD, List.getElem?_append_right (by omega), ← List.getD_eq_getElem?_getD, a2]
    rw [e1]; exact b3
theorem OpnFs.nil (n : Nat) : OpnFs P n n [] Unit (fun _ => []) (fun _ => True) :=
  fun _ _ _ _ _ _ _ _ _ => ⟨(), trivial, rfl, fun j hj => by simp at hj⟩
theorem OpnFs.cons {k n m : Nat} {f : Field} {r : List Field} {X Y : Type} {e : X → List AV} {V : X → Prop} {e' : Y → List AV} {V' : Y → Prop} (hk : f.offset = k) (hm : P.cellsOf f.type = m) (hn : k + m ≤ n)
    (o : Opn P f.type X e V) (o' : OpnFs P (k + m) n r Y e' V') : OpnFs P k n (f :: r) (X × Y) (fun y => e y.1 ++ e' y.2) (fun y => V y.1 ∧ V' y.2) := by
  intro H enc w spare held fuel cs hcs hf
  obtain ⟨x, hx⟩ := hf f (by simp)
  obtain ⟨y1, g1, g2, g3⟩ := o H enc w spare held fuel _ x hx
  obtain ⟨y2, k1, k2, k3⟩ := o' H enc w spare held fuel cs hcs (fun g hg => hf g (by simp [hg]))
  have hlen : ((cs.drop f.offset).take (P.cellsOf f.type)).length = m := by simp [hk, hm]; omega
  have hsub : ∀ j, j < m → ((cs.drop f.offset).take (P.cellsOf f.type)).getD j undef = cs.getD (k + j) undef := fun j hj => by
    simp [List.getD_eq_getElem?_getD, hk, hm, hj]
  refine ⟨(y1, y2), ⟨g1, k1⟩, by simp; omega, fun j hj => ?_⟩
  simp only [List.length_append] at hj
  by_cases hjm : j < m
  · have e1 : (e y1 ++ e' y2).getD j .undef = (e y1).getD j .undef := by
      rw [List.getD_eq_getElem?_getD, List.getElem?_append_left (by omega), ← List.getD_eq_getElem?_getD]
    have := g3 j (by omega)
    rw [hsub j hjm] at this
    rw [e1]; exact this
  · have e1 : (e y1 ++ e' y2).getD j .undef = (e' y2).getD (j - m) .undef := by
      rw [List.getD_eq_getElem?_getD, List.getElem?_append_right (by omega), ← List.getD_eq_getElem?_getD, g2, hlen]
    have := k3 (j - m) (by omega)
    have e2 : k + m + (j - m) = k + j := by omega
    rw [e2] at this
    rw [e1]; exact this
end

/-- The heap that knows of nothing. -/
def Hp0 : Hp := ⟨fun _ => .none, fun _ _ => 0, fun _ _ => rfl⟩
def Env0 : Env := ⟨fun _ => default, fun _ => undef⟩
theorem HRel0 (w : World) : HRel w (InB w) Env0 Hp0 :=
  ⟨fun L hk => by simp [Hp0] at hk, fun L L' hL _ _ => by have := hL.1; simp [Hp0] at this, fun b hb => hb⟩
theorem Opn.arg {P : Program} {t : TypeId} {X : Type} {a : X → AV} {V : X → Prop} (o : Opn P t X (fun x => [a x]) V) {H : Type} {enc : TypeId × Value → H} {w : World} {spare : Nat → Bool} {held : Bool} {v : Value} {d : DataW H} {p : List MemPlace}
    (hv : v.cells = #[v]) (h : DataW.Trod enc P w 0 spare held t v d p) : ∃ y : X, V y ∧ R w (InB w) (Env0.E Hp0) (a y) v := by
  obtain ⟨fuel, h⟩ := h
  obtain ⟨y, h1, _, h3⟩ := o H enc w spare held fuel _ _ h
  rw [hv] at h3
  exact ⟨y, h1, (h3 0 (by simp)).1.mono (fun _ _ => rfl) (fun _ hb => hb) (fun _ _ he => he.elim)⟩
theorem Opn.argAgg {P : Program} {t : TypeId} {X : Type} {a : X → List AV} {V : X → Prop} (o : Opn P t X a V) {H : Type} {enc : TypeId × Value → H} {w : World} {spare : Nat → Bool} {held : Bool} {cs : Array Value} {d : DataW H} {p : List MemPlace}
    (h : DataW.Trod enc P w 0 spare held t (.agg cs) d p) : ∃ y : X, V y ∧ R w (InB w) (Env0.E Hp0) (.agg (a y)) (.agg cs) := by
  obtain ⟨fuel, h⟩ := h
  obtain ⟨y, h1, h2, h3⟩ := o H enc w spare held fuel _ _ h
  refine ⟨y, h1, .agg _ _ (by simpa [Value.cells] using h2.symm) (fun j hj => ?_)⟩
  have := (h3 j (by omega)).1.mono (B' := InB w) (E' := Env0.E Hp0) (fun _ _ => rfl) (fun _ hb => hb) (fun _ _ he => he.elim)
  simpa [Value.cells] using this

theorem Ext0.below {w w' : World} {B' : Nat → Prop} {e' : Env} {h' : Hp} (x : Ext w (InB w) Env0 Hp0 w' B' e' h') : Below w.heap.size w w' :=
  ⟨x.os, x.tape, x.output, x.size, fun k hk => x.keep k hk (fun L hL => by have := hL.1; simp [Hp0] at this)⟩
/-- **A law that answers true.** -/
theorem law_calls {P : Program} {f : FuncId} {args : List AV} (hp : PureF P f args (.bool true)) (w : World) (vs : Array Value) (hs : vs.size = args.length) (hR : ∀ i, i < args.length → R w (InB w) (Env0.E Hp0) (args.getD i .un) (vs.getD i undef)) :
    Calls P f vs w (fun e w' => e = .returned (.bool true) ∧ Below w.heap.size w w') := by
  refine (hp Hp0 w (InB w) Env0 vs (HRel0 w) hs hR).mono ?_
  rintro en w' ⟨v, r, h', B', e', rfl, g2, g3, g4, rfl, _⟩
  have := R_bool g4
  subst this
  exact ⟨rfl, Ext0.below g3⟩
end Go.T
