/- Part of a proof: what functions of the given program compute, and plain laws of it. -/
import Derived.Test.YtocfaflghcgniaaDoorZ4
import Derived.Test.YtocfaflghcgniaaDoorZ5
import Derived.Test.YtocfaflghcgniaaDoorT4
/- strings.Builder: what it holds, and its methods. -/
namespace Go.Proofs.YtocfaflghcgniaaDoor
open Go Go.T Go.Proofs Go.Sc Go.RowKit
set_option linter.unusedSimpArgs false
set_option linter.unusedVariables false
set_option maxRecDepth 10000
theorem one_arg {vs : Array Value} {v : Value} (hs : vs.size = 1) (h0 : vs.getD 0 undef = v) : vs = #[v] := by
  apply Array.ext
  · simpa using hs
  · intro i h1 h2
    have : i = 0 := by simp at h2; omega
    subst this
    rw [Array.getD_eq_getD_getElem?, Array.getElem?_eq_getElem h1] at h0
    simpa using h0
theorem copyCheck_f {h : Hp} {V : Lab} {x : AV} {K : AV → Hp → Prop} (hc : h.con V = .bt 49 [.nilp, x]) (hk : K (.tup []) (h.set V (.bt 49 [.pt V 0 0 0, x]))) : CallK Tryd.prog 33 [.pt V 0 0 0] h K := by
  intro w B e vs hh hs hR
  have r0 := R_pt (hR 0 (by simp))
  obtain ⟨hV, e0⟩ := E_pt r0 (by rw [hc]; trivial)
  have hcon := hh.con V hV
  rw [hc] at hcon
  obtain ⟨p1, p2, vs', p3, ⟨p4, p6⟩, p5⟩ := hcon
  rw [p2] at e0
  simp only [Nat.zero_mul, Nat.add_zero] at e0
  obtain rfl := one_arg hs e0
  have c0 : vs'.getD 0 undef = .pointer none := R_nilp (by simpa using p5 0 (by simp))
  have hL : e.has h V := ⟨hV, by rw [hc]; trivial⟩
  have hlive : (h.con V).live := by rw [hc]; trivial
  have hlt : (e.β V).block < w.heap.size := (hh.lt hL).1
  refine (copyCheck_fresh (e.β V).block w ?_ ?_ (by simp [World.frozen?, p3])).mono ?_
  · rw [getD_row p3 (by rw [p4]; simp), c0]
  · simp [World.shape?, p3, p4]
  · rintro en w' ⟨rfl, rfl⟩
    rw [setCell_row w _ 0 vs' 49 _ p3]
    have hw : ∀ b, b ≠ (e.β V).block → (World.row w (e.β V).block (vs'.setIfInBounds 0 (.pointer (some ⟨(e.β V).block, 0, none⟩))) 49).heap[b]? = w.heap[b]? := fun b hb => World.row_other w _ b _ _ hb
    have hsz : (World.row w (e.β V).block (vs'.setIfInBounds 0 (.pointer (some ⟨(e.β V).block, 0, none⟩))) 49).heap.size = w.heap.size := by simp [World.row]
    have xt := Ext.write (B := B) (c := .bt 49 [.pt V 0 0 0, x]) hL hlive hsz rfl rfl rfl hw
    refine ⟨_, .tup [], _, B, e, rfl, HRel.write hh hL hlive hsz rfl rfl rfl hw ⟨hV, by rw [set_con_eq hlive]; trivial⟩ ?_, xt, .tup _ _ rfl (fun j hj => absurd hj (by simp)), hk⟩
    refine ⟨p1, p2, _, World.row_heap w _ _ _ hlt, ⟨by simp [p4], fun j hj he => ?_⟩, fun j hj => ?_⟩
    · match j, hj with
      | 0, _ => simp at he
      | 1, _ =>
        have h1 := p6 1 (by simp) (by simpa using he)
        rw [← h1]; simp [Array.getElem?_setIfInBounds]
    match j, hj with
    | 0, _ =>
      have : (vs'.setIfInBounds 0 (Value.pointer (some ⟨(e.β V).block, 0, none⟩))).getD 0 undef = .pointer (some ⟨(e.β V).block, 0, none⟩) := by
        have h0 : 0 < vs'.size := by rw [p4]; simp
        simp [h0]
      rw [this]
      simp only [List.getD_cons_zero]
      exact .ref _ _ ⟨by show V.k < h.cnt V.f V.s; exact hV, ⟨_, rfl⟩, fun _ => by rw [p2]⟩
    | 1, _ =>
      have h1 := (p5 1 (by simp)).ext hh xt
      simp only [List.getD_cons_succ, List.getD_cons_zero] at h1 ⊢
      have : (vs'.setIfInBounds 0 (Value.pointer (some ⟨(e.β V).block, 0, none⟩))).getD 1 undef = vs'.getD 1 undef := by
        simp [Array.getElem?_setIfInBounds]
      rw [this]; exact h1
theorem copyCheck_u {h : Hp} {V : Lab} {x : AV} {K : AV → Hp → Prop} (hc : h.con V = .bt 49 [.pt V 0 0 0, x]) (hk : K (.tup []) h) : CallK Tryd.prog 33 [.pt V 0 0 0] h K := by
  intro w B e vs hh hs hR
  have r0 := R_pt (hR 0 (by simp))
  obtain ⟨hV, e0⟩ := E_pt r0 (by rw [hc]; trivial)
  have hcon := hh.con V hV
  rw [hc] at hcon
  obtain ⟨p1, p2, vs', p3, ⟨p4, p6⟩, p5⟩ := hcon
  rw [p2] at e0
  simp only [Nat.zero_mul, Nat.add_zero] at e0
  obtain rfl := one_arg hs e0
  have r1 := R_pt (by simpa using p5 0 (by simp))
  obtain ⟨_, c0⟩ := E_pt r1 (by rw [hc]; trivial)
  rw [p2] at c0
  simp only [Nat.zero_mul, Nat.add_zero] at c0
  refine (copyCheck_used (e.β V).block w ?_).mono ?_
  · rw [getD_row p3 (by rw [p4]; simp), ← c0]; simp
  · rintro en w' ⟨rfl, rfl⟩
    exact ⟨_, .tup [], h, B, e, rfl, hh, Ext.refl _ _ _ _, .tup _ _ rfl (fun j hj => absurd hj (by simp)), hk⟩
/-- A builder that holds bs, made since q. -/
def SbAt (q h : Hp) (V : Lab) (bs : Bs) : Prop :=
  q.con V = .none ∧ ((bs = [] ∧ h.con V = .bt 49 [.nilp, .l true 0 []]) ∨ ∃ M : Lab, bs ≠ [] ∧ h.con V = .bt 49 [.pt V 0 0 0, .os M] ∧ h.con M = .ba 5 bs ∧ q.con M = .none ∧ (M.f = 18 ∨ M.f = 23))
/-- What the builder's methods leave. -/
def SbK (q h h' : Hp) (V : Lab) : Prop := Keeps q h' ∧ ∀ N : Lab, N.f ≠ 18 → N.f ≠ 23 → N ≠ V → h.con N ≠ .none → h'.con N = h.con N
@[go_sem] theorem bts5 : btsE Tryd.prog 5 = true := by kernel_rfl
def T18 : Nat → List Tg := fun id => if id = 2 then [.plain, .plain, .plain, .plain, .plain, .plain, .bts] else []
def T23 : Nat → List Tg := fun id => if id = 2 then [.plain, .plain, .plain, .plain, .plain, .plain, .plain, .bts] else []

theorem vne {h : Hp} {V : Lab} {c : Con} (hc : h.con V = c) (hn : c ≠ .none) (f s : Nat) : V = ⟨f, s, h.cnt f s⟩ ↔ False := by
  constructor
  · rintro rfl; rw [h.ok _ (by simp)] at hc; exact hn hc.symm
  · exact False.elim
theorem WriteString_spec (q h : Hp) (V : Lab) (bs : Bs) (t : Bs) (hq : Keeps q h) (hs : SbAt q h V bs) (ht : t ≠ []) (hl : bs.length + t.length ≤ 2 ^ 47) :
    CallK Tryd.prog 18 [.pt V 0 0 0, strV t] h (fun r h' => SbAt q h' V (bs ++ t) ∧ SbK q h h' V) := by
  obtain ⟨hqV, ⟨rfl, hV⟩ | ⟨M, hne, hV, hM, hqM, hMf⟩⟩ := hs
  · have e1 := vne hV (by simp) 18 14
    refine CallK.of_awpH mixed T18 (fn := Tryd.f18) (by kernel_rfl) rfl (by kernel_rfl) (by show 2 ≤ _; decide) ?_
    repeat' first
      | (with_reducible refine CondX.dec (fun c => ?_) (fun c => ?_)) <;> try (exfalso; omega)
      | (with_reducible refine CondX.beq (fun c => ?_) (fun c => ?_)) <;> try (exfalso; omega)
      | (with_reducible refine CondX.bne (fun c => ?_) (fun c => ?_)) <;> try (exfalso; omega)
      | (with_reducible refine CondX.bool (fun c => ?_) (fun c => ?_)) <;> try (exfalso; omega)
      | ((with_reducible refine CallX.id ?_); first | refine CallX.of (copyCheck_f hV ?_))
      | simp only [go_sem, I_eq, I_cells, T18, hV, e1, Nat.reduceAdd, Nat.reduceBEq, Nat.reduceEqDiff, Nat.reduceLeDiff, Nat.reduceLT, Nat.reduceSub]
      | simp (disch := omega) only [wrap_in, toNat_succ, toNat_pred, Int.toNat_natCast]
      | with_reducible refine And.intro (by omega) ?_
      | with_reducible refine exI (by omega) ?_
      | fail
    have n1 : q.con ⟨18, 14, h.cnt 18 14⟩ = .none := hq.new _ _
    refine ⟨⟨hqV, .inr ⟨⟨18, 14, h.cnt 18 14⟩, ht, ?_, ?_, n1, .inl rfl⟩⟩, ?_, fun N a1 a2 a3 a4 => ?_⟩
    · simp only [go_sem, hV, e1, setRange, List.set_cons_succ, List.set_cons_zero, if_false, if_true]
    · simp only [go_sem, hV, e1, eq_comm (b := V), if_true]
    · exact (((hq.set hqV _).alloc _ _ _).set hqV _)
    · have b1 : N ≠ ⟨18, 14, h.cnt 18 14⟩ := by rintro rfl; exact a1 rfl
      simp only [go_sem, a3, b1, if_false]
  · have e1 := vne hV (by simp) 18 14
    have e2 := vne hM (by simp) 18 14
    have e3 : V = M ↔ False := ⟨fun e => by rw [e, hM] at hV; simp at hV, False.elim⟩
    refine CallK.of_awpH mixed T18 (fn := Tryd.f18) (by kernel_rfl) rfl (by kernel_rfl) (by show 2 ≤ _; decide) ?_
    repeat' first
      | (with_reducible refine CondX.dec (fun c => ?_) (fun c => ?_)) <;> try (exfalso; omega)
      | (with_reducible refine CondX.beq (fun c => ?_) (fun c => ?_)) <;> try (exfalso; omega)
      | (with_reducible refine CondX.bne (fun c => ?_) (fun c => ?_)) <;> try (exfalso; omega)
      | (with_reducible refine CondX.bool (fun c => ?_) (fun c => ?_)) <;> try (exfalso; omega)
      | ((with_reducible refine CallX.id ?_); first | refine CallX.of (copyCheck_u hV ?_))
      | simp only [go_sem, I_eq, I_cells, T18, hV, hM, e1, e2, e3, Nat.reduceAdd, Nat.reduceBEq, Nat.reduceEqDiff, Nat.reduceLeDiff, Nat.reduceLT, Nat.reduceSub]
      | simp (disch := omega) only [wrap_in, toNat_succ, toNat_pred, Int.toNat_natCast]
      | with_reducible refine And.intro (by omega) ?_
      | with_reducible refine exI (by omega) ?_
      | fail
    have n1 : q.con ⟨18, 14, h.cnt 18 14⟩ = .none := hq.new _ _
    refine ⟨⟨hqV, .inr ⟨⟨18, 14, h.cnt 18 14⟩, by simp [hne], ?_, ?_, n1, .inl rfl⟩⟩, ?_, fun N a1 a2 a3 a4 => ?_⟩
    · simp only [go_sem, hV, e1, e3, if_false, if_true]
    · simp only [go_sem, hV, e1, eq_comm (b := V), if_true]
    · exact (((hq.set hqM _).alloc _ _ _).set hqV _)
    · have b1 : N ≠ ⟨18, 14, h.cnt 18 14⟩ := by rintro rfl; exact a1 rfl
      have b2 : N ≠ M := by rintro rfl; rcases hMf with e | e <;> contradiction
      simp only [go_sem, a3, b1, b2, if_false]
theorem WriteByte_spec (q h : Hp) (V : Lab) (bs : Bs) (b : UInt8) (n : Int) (hn : n = b.toNat) (hq : Keeps q h) (hs : SbAt q h V bs) (h0 : bs ≠ []) (hl : bs.length + 1 ≤ 2 ^ 47) :
    CallK Tryd.prog 23 [.pt V 0 0 0, .int .u8 n] h (fun r h' => SbAt q h' V (bs ++ [b]) ∧ SbK q h h' V) := by
  obtain ⟨hqV, ⟨rfl, hV⟩ | ⟨M, hne, hV, hM, hqM, hMf⟩⟩ := hs
  · exact absurd rfl h0
  · have e1 := vne hV (by simp) 23 14
    have e2 := vne hM (by simp) 23 14
    have e3 : V = M ↔ False := ⟨fun e => by rw [e, hM] at hV; simp at hV, False.elim⟩
    refine CallK.of_awpH mixed T23 (fn := Tryd.f23) (by kernel_rfl) rfl (by kernel_rfl) (by show 2 ≤ _; decide) ?_
    repeat' first
      | (with_reducible refine CondX.dec (fun c => ?_) (fun c => ?_)) <;> try (exfalso; omega)
      | (with_reducible refine CondX.beq (fun c => ?_) (fun c => ?_)) <;> try (exfalso; omega)
      | (with_reducible refine CondX.bne (fun c => ?_) (fun c => ?_)) <;> try (exfalso; omega)
      | (with_reducible refine CondX.bool (fun c => ?_) (fun c => ?_)) <;> try (exfalso; omega)
      | ((with_reducible refine CallX.id ?_); first | refine CallX.of (copyCheck_u hV ?_))
      | simp only [go_sem, I_eq, I_cells, T23, hV, hM, e1, e2, e3, Nat.reduceAdd, Nat.reduceBEq, Nat.reduceEqDiff, Nat.reduceLeDiff, Nat.reduceLT, Nat.reduceSub]
      | simp (disch := omega) only [wrap_in, toNat_succ, toNat_pred, Int.toNat_natCast]
      | with_reducible refine And.intro (by omega) ?_
      | with_reducible refine exI (by omega) ?_
      | fail
    have n1 : q.con ⟨23, 14, h.cnt 23 14⟩ = .none := hq.new _ _
    refine ⟨b, hn, hne, hl, ⟨hqV, .inr ⟨⟨23, 14, h.cnt 23 14⟩, by simp [hne], ?_, ?_, n1, .inr rfl⟩⟩, ?_, fun N a1 a2 a3 a4 => ?_⟩
    · simp only [go_sem, hV, e1, e3, if_false, if_true]
    · simp only [go_sem, hV, e1, eq_comm (b := V), if_true]
    · exact (((hq.set hqM _).alloc _ _ _).set hqV _)
    · have b1 : N ≠ ⟨23, 14, h.cnt 23 14⟩ := by rintro rfl; exact a2 rfl
      have b2 : N ≠ M := by rintro rfl; rcases hMf with e | e <;> contradiction
      simp only [go_sem, a3, b1, b2, if_false]
theorem String_spec (q h : Hp) (V : Lab) (bs : Bs) (hq : Keeps q h) (hs : SbAt q h V bs) :
    CallK Tryd.prog 24 [.pt V 0 0 0] h (fun r h' => r = strV bs ∧ Keeps q h') := by
  intro w B e vs hh hsz hR
  have r0 := R_pt (hR 0 (by simp))
  obtain ⟨hqV, hs⟩ := hs
  have key : ∀ x y, h.con V = .bt 49 [x, y] → ∃ vs' p, vs = #[.pointer (some ⟨(e.β V).block, 0, none⟩)] ∧ w.heap[(e.β V).block]? = some (.cells #[p, vs'] 49 (0, 0)) ∧ R w B (e.E h) y vs' ∧ (y = .l true 0 [] → vs' = .slice none 0 0) := by
    intro x y hc
    obtain ⟨hV, e0⟩ := E_pt r0 (by rw [hc]; trivial)
    have hcon := hh.con V hV
    rw [hc] at hcon
    obtain ⟨p1, p2, vs', p3, ⟨p4, p6⟩, p5⟩ := hcon
    rw [p2] at e0
    simp only [Nat.zero_mul, Nat.add_zero] at e0
    obtain rfl := one_arg hsz e0
    have hv : vs' = #[vs'.getD 0 undef, vs'.getD 1 undef] := by
      apply Array.ext
      · simp [p4]
      · intro i h1 h2
        have h3 : i = 0 ∨ i = 1 := by simp at h2; omega
        rcases h3 with rfl | rfl <;> simp [h1]
    refine ⟨vs'.getD 1 undef, vs'.getD 0 undef, rfl, by rw [p3, ← hv], by simpa using p5 1 (by simp), fun hy => p6 1 (by simp) (by simpa using hy)⟩
  rcases hs with ⟨rfl, hV⟩ | ⟨M, hne, hV, hM, hqM, hMf⟩
  · obtain ⟨v, p, rfl, hb, _, hv⟩ := key _ _ hV
    rw [hv rfl] at hb
    refine (String_nil _ p w hb).mono ?_
    rintro en w' ⟨rfl, rfl⟩
    exact ⟨_, _, h, B, e, rfl, hh.below (Below.drew (Below.refl _ w)), Ext.below (Below.drew (Below.refl _ w)), .str _, rfl, hq⟩
  · obtain ⟨v, p, rfl, hb, hv, _⟩ := key _ _ hV
    have hv1 := R_os hv
    have hMk := hv1.1
    have hve := hv1.2.2 (by rw [hM]; trivial)
    have hcM := hh.con M hMk
    rw [hM] at hcM
    obtain ⟨m1, cap, cur, m2, ⟨m3, m4⟩, m5, m6, m7, m8⟩ := hcM
    rw [hve, m3] at hb
    have hown : w.ownsRow 0 5 1 (.slice (some ⟨(e.β M).block, 0, none⟩) bs.length cap) bs.length (Lib.byteCells bs) :=
      ⟨by simp [Lib.byteCells], .inr ⟨(e.β M).block, cap, cur, rfl, Nat.zero_le _, m2, m5, m6, m7, m8⟩⟩
    refine (String_used _ (e.β M).block cap p bs cur w hb m2 hne m5 m6 m7 hown).mono ?_
    rintro en w' ⟨rfl, rfl⟩
    have hasM : e.has h M := ⟨hMk, by rw [hM]; trivial⟩
    have d1 : HRel w B e (h.set M .none) := HRel.drop hh (fun N => dropc N) rfl
    have xd : Ext w B e h w B e (h.set M .none) := Ext.drop (fun N => dropc N) rfl
    have hoth : ∀ b, b ≠ (e.β M).block → (w.drew.freeze ⟨(e.β M).block, 0, none⟩ bs.length).heap[b]? = w.heap[b]? := fun b hb => by
      show _ = w.drew.heap[b]?
      simp [World.freeze, hne, Array.getElem?_modify, Ne.symm hb]
    have hsz2 : (w.drew.freeze ⟨(e.β M).block, 0, none⟩ bs.length).heap.size = w.heap.size := by
      show _ = w.drew.heap.size
      simp [World.freeze, hne]
    have d2 : HRel (w.drew.freeze ⟨(e.β M).block, 0, none⟩ bs.length) B e (h.set M .none) := by
      refine d1.free (by rw [hsz2]; exact Nat.le_refl _) fun b hb => hoth b ?_
      rcases hb with hb | ⟨N, hN, rfl⟩
      · rintro rfl; exact m1 hb
      · intro hE
        obtain ⟨n1, n2⟩ := has_frz hN
        exact n1 (hh.inj _ _ n2 hasM hE)
    have hf := Lib.below_freeze (Below.drew (Below.refl (e.β M).block w)) (p := ⟨(e.β M).block, 0, none⟩) (Nat.le_refl _) bs.length
    have x2 : Ext w B e h (w.drew.freeze ⟨(e.β M).block, 0, none⟩ bs.length) B e (h.set M .none) := by
      refine ⟨by rw [hsz2]; exact Nat.le_refl _, hf.os, hf.tape, hf.output, fun _ h => h, fun _ h => .inl h, fun b hb ho => hoth b fun hE => ho M hasM hE.symm, xd.onew, xd.cnt, xd.env, xd.live⟩
    exact ⟨_, _, _, B, e, rfl, d2, x2, .str _, rfl, hq.set hqM _⟩
end Go.Proofs.YtocfaflghcgniaaDoor
