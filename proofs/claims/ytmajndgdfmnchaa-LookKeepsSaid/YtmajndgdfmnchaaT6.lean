/- Part of a proof: a small logic of programs over plain values, shown sound for the given machine. -/
import Derived.Test.YtmajndgdfmnchaaT4
/- Lending: a call reads own slices and variables that stay own; the callee is shown at the values that they hold. -/
namespace Go.T
open Go
set_option linter.unusedSimpArgs false
set_option linter.unusedVariables false
/-- Of no label anything is known. -/
def Hp.bare (h : Hp) : Hp := ⟨fun _ => .none, h.cnt, fun _ _ => rfl⟩
/-- What was there, and what H made since. -/
def Hp.merge (h H : Hp) (hc : ∀ f s, h.cnt f s ≤ H.cnt f s) : Hp := ⟨fun L => if L.k < h.cnt L.f L.s then h.con L else H.con L, H.cnt, fun L hL => by
  have := hc L.f L.s
  rw [if_neg (by omega)]
  exact H.ok L hL⟩
mutual
/-- A value that refers to nothing but what was made since h. -/
def AV.sn (h : Hp) : AV → Prop
  | .l _ _ xs => xs = []
  | .ip _ => False
  | .agg cs => AV.sns h cs
  | .tup cs => AV.sns h cs
  | .fn _ cs => AV.sns h cs
  | .pt L _ _ _ => h.cnt L.f L.s ≤ L.k
  | .os L => h.cnt L.f L.s ≤ L.k
  | .mr L => h.cnt L.f L.s ≤ L.k
  | .sl L _ _ _ => h.cnt L.f L.s ≤ L.k
  | .yl _ => False
  | _ => True
def AV.sns (h : Hp) : List AV → Prop
  | [] => True
  | x :: r => AV.sn h x ∧ AV.sns h r
end
theorem sns_iff {h : Hp} : ∀ {xs : List AV}, AV.sns h xs ↔ ∀ x ∈ xs, AV.sn h x := by
  intro xs
  induction xs with
  | nil => simp [AV.sns]
  | cons x r ih => simp [AV.sns, ih]
theorem sns_getD {h : Hp} {xs : List AV} (hx : AV.sns h xs) (j : Nat) : AV.sn h (xs.getD j .undef) := by
  rw [List.getD_eq_getElem?_getD]
  rcases Nat.lt_or_ge j xs.length with hj | hj
  · rw [List.getElem?_eq_getElem hj]; exact sns_iff.1 hx _ (List.getElem_mem hj)
  · rw [List.getElem?_eq_none hj]; simp [AV.sn]
theorem sn_cells {h : Hp} {a : AV} (ha : AV.sn h a) : AV.sns h a.cells := by
  cases a <;> simp_all [AV.cells, AV.sns, AV.sn]
def Con.sn (h : Hp) : Con → Prop
  | .none => True
  | .blk cs => AV.sns h cs
  | .arr _ xs => AV.sns h xs
  | _ => False
section
variable {w w' : World} {B B' : Nat → Prop} {e e' : Env} {h H : Hp}
theorem E_merge {hc : ∀ f s, h.cnt f s ≤ H.cnt f s} {a : AV} {v : Value} (ha : a.sn h) (hE : e.E H a v) : e.E (h.merge H hc) a v := by
  have key : ∀ L : Lab, h.cnt L.f L.s ≤ L.k → (h.merge H hc).con L = H.con L := fun L hL => by
    simp only [Hp.merge]; rw [if_neg (by omega)]
  cases a with
  | pt L sz i j => exact ⟨hE.1, hE.2.1, fun hl => hE.2.2 (by rw [key L ha] at hl; exact hl)⟩
  | os L => exact ⟨hE.1, hE.2.1, fun hl => hE.2.2 (by rw [key L ha] at hl; exact hl)⟩
  | sl L sz a n => exact ⟨hE.1, hE.2.1, fun hl => hE.2.2 (by rw [key L ha] at hl; exact hl)⟩
  | mr L => exact ⟨hE.1, hE.2.1, fun hl => hE.2.2 (by rw [key L ha] at hl; exact hl)⟩
  | yl L => exact ha.elim
  | _ => exact hE.elim
theorem R_sn {hc : ∀ f s, h.cnt f s ≤ H.cnt f s} {a : AV} {v : Value} (hR : R w B (e.E H) a v) (ha : a.sn h) : R w B' (e.E (h.merge H hc)) a v := by
  induction hR with
  | undef v => exact .undef v
  | un => exact .un
  | int k n => exact .int k n
  | bool b => exact .bool b
  | str s => exact .str s
  | nilp => exact .nilp
  | nilf => exact .nilf
  | nilm => exact .nilm
  | l0 ex sz a c hx => exact .l0 ex sz a c hx
  | l ex sz xs b off cap vs h1 => exact absurd ha h1
  | ip cs b off vs => exact ha.elim
  | agg cs vs h1 _ ih => exact .agg cs vs h1 fun j hj => ih j hj (sns_getD ha j)
  | tup cs vs h1 _ ih => exact .tup cs vs h1 fun j hj => ih j hj (sns_getD ha j)
  | fn f cs vs h1 _ ih => exact .fn f cs vs h1 fun j hj => ih j hj (sns_getD ha j)
  | ref a v hr => exact .ref a v (E_merge ha hr)
end
/-- The arguments, in which the labels Ls are read as what they hold. -/
def lendA : List Lab → Hp → List AV → List AV
  | [], _, args => args
  | L :: r, h, args => lendA r (h.set L .none) (args.map (AV.frz L (h.con L)))
theorem E_bare {e : Env} {h : Hp} {a : AV} {v : Value} (hE : e.E h a v) : e.E h.bare a v := by
  cases a with
  | pt L sz i j => exact ⟨hE.1, hE.2.1, fun hl => hl.elim⟩
  | os L => exact ⟨hE.1, hE.2.1, fun hl => hl.elim⟩
  | sl L sz a n => exact ⟨hE.1, hE.2.1, fun hl => hl.elim⟩
  | mr L => exact ⟨hE.1, hE.2.1, fun hl => hl.elim⟩
  | yl L => exact hE
  | _ => exact hE.elim
theorem lend_bare {w : World} {e : Env} {vs : Array Value} : ∀ (Ls : List Lab) {B : Nat → Prop} {h : Hp} {args : List AV}, HRel w B e h → (∀ i, i < args.length → R w B (e.E h) (args.getD i .un) (vs.getD i undef)) →
    ∃ B', (∀ b, B b → B' b) ∧ HRel w B' e h.bare ∧ (lendA Ls h args).length = args.length ∧ ∀ i, i < args.length → R w B' (e.E h.bare) ((lendA Ls h args).getD i .un) (vs.getD i undef) := by
  intro Ls
  induction Ls with
  | nil =>
    intro B h args hh hR
    refine ⟨B, fun _ hb => hb, ⟨fun _ _ => trivial, fun L _ hL => ?_, hh.bnd⟩, rfl, fun i hi => (hR i hi).mono (fun _ _ => rfl) (fun _ hb => hb) (fun _ _ => E_bare)⟩
    exact hL.2.elim
  | cons L Ls ih =>
    intro B h args hh hR
    obtain ⟨B', k1, k2, k3, k4⟩ := ih (HRel_frz (L := L) hh) (args := args.map (AV.frz L (h.con L))) (fun i hi => by
      have hi' : i < args.length := by simpa using hi
      have := R_frz (L := L) hh (hR i hi')
      have e1 : (args.map (AV.frz L (h.con L))).getD i .un = (args.getD i .un).frz L (h.con L) := by
        simp [List.getD_eq_getElem?_getD, hi']
      rw [e1]; exact this)
    refine ⟨B', fun b hb => k1 b (.inl hb), k2, by simp only [lendA]; rw [k3, List.length_map], fun i hi => k4 i (by simpa using hi)⟩
/-- **A call to which own things are lent.** -/
theorem CallK.lendG {P : Program} {f : FuncId} {args : List AV} {h : Hp} {K : AV → Hp → Prop} (Ls : List Lab)
    (hc : CallK P f (lendA Ls h args) h.bare (fun r H => r.sn h ∧ (∀ L : Lab, h.cnt L.f L.s ≤ L.k → (H.con L).sn h) ∧ ∀ hle, K r (h.merge H hle))) : CallK P f args h K := by
  intro w B e vs hh hs hR
  obtain ⟨B2, k1, k2, k3, k4⟩ := lend_bare Ls hh hR
  refine (hc w B2 e vs k2 (by rw [k3, hs]) (fun i hi => k4 i (by rw [← k3]; exact hi))).mono ?_
  rintro en w' ⟨v, r, H, B3, e', rfl, g1, g2, g3, g4, g5, g6⟩
  have hle : ∀ f s, h.cnt f s ≤ H.cnt f s := g2.cnt
  have same : ∀ b, b < w.heap.size → w'.heap[b]? = w.heap[b]? := fun b hb => g2.keep b hb fun L hL => hL.2.elim
  have env : ∀ L : Lab, L.k < h.cnt L.f L.s → e'.β L = e.β L ∧ e'.η L = e.η L := g2.env
  have old : ∀ L : Lab, L.k < h.cnt L.f L.s → (h.merge H hle).con L = h.con L := fun L hL => by simp only [Hp.merge]; rw [if_pos hL]
  have new : ∀ L : Lab, ¬ L.k < h.cnt L.f L.s → (h.merge H hle).con L = H.con L := fun L hL => by simp only [Hp.merge]; rw [if_neg hL]
  have bB : ∀ b, B b → B3 b := fun b hb => g2.bsub b (k1 b hb)
  have mE : ∀ a v, e.E h a v → e'.E (h.merge H hle) a v := by
    intro a v hE
    cases a with
    | pt L sz i j => exact ⟨Nat.lt_of_lt_of_le hE.1 (hle _ _), hE.2.1, fun hl => by rw [(env L hE.1).1]; exact hE.2.2 (by rw [old L hE.1] at hl; exact hl)⟩
    | os L => exact ⟨Nat.lt_of_lt_of_le hE.1 (hle _ _), hE.2.1, fun hl => by rw [(env L hE.1).2]; exact hE.2.2 (by rw [old L hE.1] at hl; exact hl)⟩
    | sl L sz a n => exact ⟨Nat.lt_of_lt_of_le hE.1 (hle _ _), hE.2.1, fun hl => by rw [(env L hE.1).2]; exact hE.2.2 (by rw [old L hE.1] at hl; exact hl)⟩
    | mr L => exact ⟨Nat.lt_of_lt_of_le hE.1 (hle _ _), hE.2.1, fun hl => by rw [(env L hE.1).1]; exact hE.2.2 (by rw [old L hE.1] at hl; exact hl)⟩
    | yl L => exact ⟨Nat.lt_of_lt_of_le hE.1 (hle _ _), by rw [(env L hE.1).1]; exact hE.2⟩
    | _ => exact hE.elim
  have mR : ∀ {a v}, R w B (e.E h) a v → R w' B (e'.E (h.merge H hle)) a v := fun g => g.mono (fun b hb => same b (hh.bnd b hb)) (fun _ hb => hb) mE
  have hasO : ∀ L : Lab, L.k < h.cnt L.f L.s → e'.has (h.merge H hle) L → e.has h L := fun L hL hh => by
    refine ⟨hL, ?_⟩
    have := hh.2
    rw [old L hL, (env L hL).2] at this
    exact this
  have hasN : ∀ L : Lab, ¬ L.k < h.cnt L.f L.s → e'.has (h.merge H hle) L → e'.has H L := fun L hL hh => by
    refine ⟨hh.1, ?_⟩
    have := hh.2
    rw [new L hL] at this
    exact this
  have bndO : ∀ L : Lab, e.has h L → (e.β L).block < w.heap.size := fun L hL => by
    have hcon := hh.con L hL.1
    have hm := hL.2
    have lt : ∀ {o : Obj}, w.heap[(e.β L).block]? = some o → (e.β L).block < w.heap.size := fun ho => (Array.getElem?_eq_some_iff.1 ho).1
    cases hc : h.con L with
    | none => rw [hc] at hm; exact hm.elim
    | blk cs => rw [hc] at hcon; obtain ⟨_, _, vs, T, p3, _⟩ := hcon; exact lt p3
    | arr sz xs =>
      rw [hc] at hcon hm
      obtain ⟨a, cap, p1, p2, p3, p4⟩ := hcon
      obtain ⟨a', n', c', q1, q2⟩ := hm
      rcases p4 with p4 | ⟨_, _, _, vs, T, p7, _⟩
      · rw [p1] at q1; injection q1 with _ _ q3; omega
      · exact lt p7
    | lp sl n ps asg bd s => rw [hc] at hcon; obtain ⟨_, r, p2, _⟩ := hcon; exact lt p2
    | mp es ck => rw [hc] at hcon; obtain ⟨_, ents, p2, _⟩ := hcon; exact lt p2
  have bndN : ∀ L : Lab, e'.has H L → w.heap.size ≤ (e'.β L).block := fun L hL => by
    rcases g2.onew L hL with ⟨M, hM, _⟩ | h1
    · exact hM.2.elim
    · exact h1
  refine ⟨v, r, h.merge H hle, B, e', rfl, ⟨fun L hk => ?_, fun L L' hL hL' hb => ?_, fun b hb => Nat.lt_of_lt_of_le (hh.bnd b hb) g2.size⟩, ?_, R_sn g3 g4, g6 hle⟩
  · by_cases hL : L.k < h.cnt L.f L.s
    · have hcon := hh.con L hL
      obtain ⟨e1, e2⟩ := env L hL
      rw [old L hL]
      cases hc : h.con L with
      | none => trivial
      | blk cs =>
        have hb := bndO L ⟨hL, by rw [hc]; trivial⟩
        rw [hc] at hcon
        obtain ⟨p1, p2, vs, T, p3, p4, p5⟩ := hcon
        exact ⟨by rw [e1]; exact p1, by rw [e1]; exact p2, vs, T, by rw [e1, same _ hb]; exact p3, p4, fun j hj => mR (p5 j hj)⟩
      | arr sz xs =>
        have hb : ∀ a n c, e.η L = .slice a n c → c ≠ 0 → (e.β L).block < w.heap.size := fun a n c q1 q2 => bndO L ⟨hL, by rw [hc]; exact ⟨a, n, c, q1, q2⟩⟩
        rw [hc] at hcon
        obtain ⟨a, cap, p1, p2, p3, p4⟩ := hcon
        refine ⟨a, cap, by rw [e2]; exact p1, p2, p3, ?_⟩
        by_cases h0 : cap = 0
        · exact .inl h0
        have hb := hb _ _ _ p1 h0
        rcases p4 with p4 | ⟨p4, p5, p6, vs, T, p7, p8, p9⟩
        · exact .inl p4
        · exact .inr ⟨by rw [e1]; exact p4, by rw [e1]; exact p5, by rw [e1]; exact p6, vs, T, by rw [e1, same _ hb]; exact p7, by rw [e1]; exact p8, fun i j hi hj => by rw [e1]; exact ⟨mR (p9 i j hi hj).1, (p9 i j hi hj).2⟩⟩
      | lp sl n ps asg bd s =>
        have hb := bndO L ⟨hL, by rw [hc]; trivial⟩
        rw [hc] at hcon
        obtain ⟨p1, r, p2, p3, p4, p5, p6, p7, p8⟩ := hcon
        exact ⟨by rw [e1]; exact p1, r, by rw [e1, same _ hb]; exact p2, p3, p4, p5, p6, fun i => mR (p7 i), p8⟩
      | mp es ck =>
        have hb := bndO L ⟨hL, by rw [hc]; trivial⟩
        rw [hc] at hcon
        obtain ⟨p1, ents, p2, p3, p4⟩ := hcon
        exact ⟨by rw [e1]; exact p1, ents, by rw [e1, same _ hb]; exact p2, p3, fun j hj => ⟨mR (p4 j hj).1, mR (p4 j hj).2.1, (p4 j hj).2.2⟩⟩
    · have hcon := g1.con L hk
      have hsn := g5 L (by omega)
      rw [new L hL]
      cases hc : H.con L with
      | none => trivial
      | blk cs =>
        rw [hc] at hcon hsn
        obtain ⟨p1, p2, vs, T, p3, p4, p5⟩ := hcon
        exact ⟨fun hb => p1 (bB _ hb), p2, vs, T, p3, p4, fun j hj => R_sn (p5 j hj) (sns_getD hsn j)⟩
      | arr sz xs =>
        rw [hc] at hcon hsn
        obtain ⟨a, cap, p1, p2, p3, p4⟩ := hcon
        refine ⟨a, cap, p1, p2, p3, ?_⟩
        rcases p4 with p4 | ⟨p4, p5, p6, vs, T, p7, p8, p9⟩
        · exact .inl p4
        · exact .inr ⟨p4, p5, fun hb => p6 (bB _ hb), vs, T, p7, p8, fun i j hi hj => ⟨R_sn (p9 i j hi hj).1 (sns_getD (sn_cells (sns_iff.1 hsn _ (List.getElem_mem hi))) j), (p9 i j hi hj).2⟩⟩
      | lp sl n ps asg bd s => rw [hc] at hsn; exact hsn.elim
      | mp es ck => rw [hc] at hsn; exact hsn.elim
  · by_cases h1 : L.k < h.cnt L.f L.s <;> by_cases h2 : L'.k < h.cnt L'.f L'.s
    · exact hh.inj _ _ (hasO L h1 hL) (hasO L' h2 hL') (by rw [(env L h1).1, (env L' h2).1] at hb; exact hb)
    · have q1 := bndO L (hasO L h1 hL)
      have q2 := bndN L' (hasN L' h2 hL')
      rw [(env L h1).1] at hb
      omega
    · have q1 := bndO L' (hasO L' h2 hL')
      have q2 := bndN L (hasN L h1 hL)
      rw [(env L' h2).1] at hb
      omega
    · exact g1.inj _ _ (hasN L h1 hL) (hasN L' h2 hL') hb
  · refine ⟨g2.size, g2.os, g2.tape, g2.output, fun _ hb => hb, fun _ hb => .inl hb, fun b hb _ => same b hb, fun L hL => ?_, hle, env, fun L hL hl => by rw [old L hL] at hl; exact hl⟩
    by_cases h1 : L.k < h.cnt L.f L.s
    · exact .inl ⟨L, hasO L h1 hL, by rw [(env L h1).1]⟩
    · exact .inr (bndN L (hasN L h1 hL))
theorem merge_bare {h : Hp} (hle) : h.merge h.bare hle = h := by
  have : (h.merge h.bare hle).con = h.con := by
    funext L
    simp only [Hp.merge, Hp.bare]
    split
    · rfl
    · rw [h.ok L (by omega)]
  cases h
  simp only [Hp.merge, Hp.bare] at this ⊢
  congr
end Go.T
/- Maps of int pairs to counts: m[k]++. -/
namespace Go.T
open Go Go.Gh
set_option linter.unusedSimpArgs false
def mapI : List ((Int × Int) × Int) → Nat → List (AV × AV × Nat)
  | [], _ => []
  | e :: r, i => (pairA e.1, .int .i64 e.2, i) :: mapI r (i + 1)
@[go_sem] theorem mapI_nil {i : Nat} : mapI [] i = [] := by simp [mapI]
@[go_sem] theorem cells_nilm : AV.nilm.cells = [.nilm] := by simp [AV.cells]
@[go_sem] theorem cast_zero : ((0 : Nat) : Int) = 0 := by simp
theorem mapI_length : ∀ (es : List ((Int × Int) × Int)) (i : Nat), (mapI es i).length = es.length := by
  intro es
  induction es with
  | nil => intro i; rfl
  | cons e r ih => intro i; simp [mapI, ih]
def cntI : List ((Int × Int) × Int) → Int × Int → Int
  | [], _ => 0
  | e :: r, k => if e.1 = k then e.2 else cntI r k
def setI : List ((Int × Int) × Int) → Int × Int → Int → List ((Int × Int) × Int)
  | [], k, v => [(k, v)]
  | e :: r, k, v => if e.1 = k then (k, v) :: r else e :: setI r k v
theorem cntI_setI (k : Int × Int) (v : Int) (q : Int × Int) : ∀ es, cntI (setI es k v) q = if k = q then v else cntI es q := by
  intro es
  induction es with
  | nil => simp [setI, cntI]
  | cons e r ih =>
    unfold setI
    by_cases h : e.1 = k
    · rw [if_pos h]
      unfold cntI
      by_cases hq : k = q
      · simp [hq]
      · simp [hq, h]
    · rw [if_neg h]
      unfold cntI
      by_cases hq : e.1 = q
      · have : k ≠ q := fun hk => h (hq.trans hk.symm)
        simp [hq, this]
      · rw [if_neg hq, if_neg hq, ih]
/-- Where a key stands. -/
def atI (k : Int × Int) : List ((Int × Int) × Int) → Option Nat
  | [] => .none
  | e :: r => if e.1 = k then some 0 else (atI k r).map (· + 1)
theorem findM_mapI (a b : Int) : ∀ (es : List ((Int × Int) × Int)) (i j : Nat), findM [.int .i64 a, .int .i64 b] (mapI es j) i = some ((atI (a, b) es).map (· + i)) := by
  intro es
  induction es with
  | nil => intro i j; rfl
  | cons e r ih =>
    intro i j
    simp only [mapI, findM, keyEq_pair, atI]
    by_cases h : e.1 = (a, b)
    · simp [h]
    · simp only [h, decide_false, if_false, ih, Option.map_map]
      congr 2
      funext x
      simp; omega
theorem atI_some {k : Int × Int} : ∀ {es : List ((Int × Int) × Int)} {i : Nat}, atI k es = some i → ∀ j, ∃ hi : i < (mapI es j).length, (mapI es j)[i].2.1 = .int .i64 (cntI es k) ∧ (mapI es j)[i].2.2 = i + j ∧ ∀ v, (mapI es j).set i ((mapI es j)[i].1, .int .i64 v, (mapI es j)[i].2.2) = mapI (setI es k v) j ∧ (setI es k v).length = es.length := by
  intro es
  induction es with
  | nil => intro i h; simp [atI] at h
  | cons e r ih =>
    intro i h j
    unfold atI at h
    by_cases hk : e.1 = k
    · rw [if_pos hk] at h
      cases h
      refine ⟨by simp [mapI], by simp [mapI, cntI, hk], by simp [mapI], fun v => ?_⟩
      simp [mapI, setI, hk]
    · rw [if_neg hk] at h
      cases ha : atI k r with
      | none => rw [ha] at h; cases h
      | some m =>
        rw [ha] at h
        simp only [Option.map_some, Option.some.injEq] at h
        subst h
        obtain ⟨h1, h2, h3, h4⟩ := ih ha (j + 1)
        refine ⟨by simp [mapI]; omega, by simp only [mapI, List.getElem_cons_succ, cntI, hk, if_false]; exact h2, by simp only [mapI, List.getElem_cons_succ]; rw [h3]; omega, fun v => ?_⟩
        obtain ⟨h5, h6⟩ := h4 v
        refine ⟨?_, by simp only [setI, hk, if_false, List.length_cons, h6]⟩
        simp only [mapI, List.getElem_cons_succ, List.set_cons_succ, setI, hk, if_false, h5]
theorem atI_none {k : Int × Int} : ∀ {es : List ((Int × Int) × Int)}, atI k es = .none → cntI es k = 0 ∧ ∀ v, setI es k v = es ++ [(k, v)] := by
  intro es
  induction es with
  | nil => intro _; simp [cntI, setI]
  | cons e r ih =>
    intro h
    unfold atI at h
    by_cases hk : e.1 = k
    · rw [if_pos hk] at h; cases h
    · rw [if_neg hk] at h
      have := ih (by simpa using h)
      refine ⟨by simp only [cntI, hk, if_false, this.1], fun v => by simp only [setI, hk, if_false, this.2, List.cons_append]⟩
theorem mapI_snoc (k : Int × Int) (v : Int) : ∀ (es : List ((Int × Int) × Int)) (j : Nat), mapI (es ++ [(k, v)]) j = mapI es j ++ [(pairA k, .int .i64 v, j + es.length)] := by
  intro es
  induction es with
  | nil => intro j; simp [mapI]
  | cons e r ih => intro j; simp [mapI, ih]; omega
theorem LookX.cn {es : List ((Int × Int) × Int)} {a b : Int} {K : AV → Prop} {u : Tok K} (h : K (.int .i64 (cntI es (a, b)))) : LookX [.int .i64 a, .int .i64 b] (mapI es 0) false (.int .i64 0) K u := by
  refine LookX.of (findM_mapI a b es 0 0) ?_
  cases hx : atI (a, b) es with
  | none => rw [(atI_none hx).1] at h; exact h
  | some m =>
    obtain ⟨h1, h2, _⟩ := atI_some hx 0
    refine ⟨h1, ?_⟩
    simp only [Nat.add_zero, h2]
    exact h
/-- A place in a map, got ready for key k. -/
def Slot (es : List ((Int × Int) × Int)) (k : Int × Int) (es1 : List (AV × AV × Nat)) (n1 : Nat) (b : Int) : Prop :=
  ∀ v : Int, ∃ i, findB b es1 0 = some i ∧ ∃ hi : i < es1.length, es1.set i ((es1[i]).1, .int .i64 v, (es1[i]).2.2) = mapI (setI es k v) 0 ∧ n1 = (setI es k v).length
theorem findB_mapI {k : Nat} : ∀ {es : List ((Int × Int) × Int)} {i j : Nat} {tl : List (AV × AV × Nat)}, k < es.length → findB ((k + j : Nat) : Int) (mapI es j ++ tl) i = some (i + k) := by
  induction k with
  | zero =>
    intro es i j tl h
    cases es with
    | nil => simp at h
    | cons e r => simp [mapI, findB]
  | succ k ih =>
    intro es i j tl h
    cases es with
    | nil => simp at h
    | cons e r =>
      have h1 : ¬ ((j : Nat) : Int) = ((k + 1 + j : Nat) : Int) := by omega
      simp only [mapI, List.cons_append, findB, h1, if_false]
      have := ih (es := r) (i := i + 1) (j := j + 1) (tl := tl) (by simpa using h)
      rw [show k + (j + 1) = k + 1 + j by omega] at this
      rw [this]; congr 1; omega
theorem findB_snoc (n : Nat) (e : AV × AV × Nat) (he : e.2.2 = n) : ∀ (es : List ((Int × Int) × Int)) (i j : Nat), j + es.length ≤ n → findB n (mapI es j ++ [e]) i = some (i + es.length) := by
  intro es
  induction es with
  | nil => intro i j _; simp [mapI, findB, he]
  | cons x r ih =>
    intro i j hj
    simp only [List.length_cons] at hj
    have h1 : ¬ ((j : Nat) : Int) = (n : Int) := by omega
    simp only [mapI, List.cons_append, findB, h1, if_false, List.length_cons]
    rw [ih (i + 1) (j + 1) (by omega)]
    congr 1; omega
theorem set_same {h : Hp} {L : Lab} {c : Con} (hc : h.con L = c) : h.set L c = h := by
  cases h with
  | mk con cnt ok =>
    simp only [Hp.set] at *
    congr 1
    funext M
    by_cases hM : M = L
    · subst hM; rw [if_pos rfl, hc]; cases c <;> rfl
    · rw [if_neg hM]
theorem EntryX.cn {H : Hp} {L : Lab} {es : List ((Int × Int) × Int)} {n : Nat} {z : AV} {a b : Int} {K : AV → Hp → Prop} {u : Tok K} (hn : n = es.length) (hL : H.con L = .mp (mapI es 0) n)
    (h : ∀ es1 n1 v c, Slot es (a, b) es1 n1 c → K (.tup [v, .int .i64 c]) (H.set L (.mp es1 n1))) : EntryX H L (mapI es 0) n z [.int .i64 a, .int .i64 b] K u := by
  refine EntryX.of (findM_mapI a b es 0 0) ?_
  cases hx : atI (a, b) es with
  | none =>
    refine h _ _ _ _ fun v => ⟨es.length, ?_, ?_⟩
    · rw [findB_snoc n _ rfl es 0 0 (by omega)]; simp
    · refine ⟨by simp [mapI_length], ?_, by rw [(atI_none hx).2, hn]; simp⟩
      rw [(atI_none hx).2, mapI_snoc, List.set_append_right _ _ (by simp [mapI_length])]
      simp [mapI_length, pairA, List.getElem_append_right, hn]
  | some m =>
    obtain ⟨h1, h2, h3, h4⟩ := atI_some hx 0
    refine ⟨h1, ?_⟩
    have := h (mapI es 0) n ((mapI es 0)[m].2.1) ((mapI es 0)[m].2.2 : Nat) (fun v => ⟨m, ?_, h1, (h4 v).1, by rw [(h4 v).2]; exact hn⟩)
    · rw [set_same hL] at this
      exact this
    · rw [h3]
      have := findB_mapI (k := m) (es := es) (i := 0) (j := 0) (tl := []) (by simpa [mapI_length] using h1)
      simpa using this
theorem StoreX.cn {H : Hp} {L : Lab} {es : List ((Int × Int) × Int)} {es1 : List (AV × AV × Nat)} {n1 : Nat} {k : Int × Int} {b v : Int} {K : Hp → Prop} {u : Tok K} (hs : Slot es k es1 n1 b)
    (h : K (H.set L (.mp (mapI (setI es k v) 0) (setI es k v).length))) : StoreX H L es1 n1 (.int .i64 v) b K u := by
  obtain ⟨i, h1, h2, h3, h4⟩ := hs v
  refine StoreX.of h1 ⟨h2, ?_⟩
  rw [h3, h4]; exact h
end Go.T
/- Slots that a code does not set stay: loops and cuts that need not say so. -/
namespace Go.T
open Go
set_option linter.unusedSimpArgs false
set_option linter.unusedVariables false
/-- Whether a slot lies in one of the ranges. -/
def inL : List (Nat × Nat) → Nat → Bool
  | [], _ => false
  | m :: r, n => if m.1 ≤ n then (if n ≤ m.2 then true else inL r n) else inL r n
@[go_sem] theorem inL_nil {n : Nat} : inL [] n = false := by simp [inL]
@[go_sem] theorem inL_cons {a b n : Nat} {r : List (Nat × Nat)} : inL ((a, b) :: r) n = if a ≤ n then (if n ≤ b then true else inL r n) else inL r n := by simp [inL]
/-- Every slot that the code sets is in the list. -/
def okDst (ms : List (Nat × Nat)) (d : Option Nat) : Bool := match d with
  | some n => inL ms n
  | .none => true
def modsIn (ms : List (Nat × Nat)) : Code → Bool
  | .region _ ops _ => ops.toList.all fun o => okDst ms o.dst
  | .seq a b => modsIn ms a && modsIn ms b
  | .cond _ a b => modsIn ms a && modsIn ms b
  | .block _ c => modsIn ms c
  | .loop c => modsIn ms c
  | .scope c => modsIn ms c
  | _ => true
/-- The slots outside the list are those of s. -/
def Frm (ms : List (Nat × Nat)) (s t : St) : Prop := ∀ n, inL ms n = false → t.slots n = s.slots n
theorem Frm.refl (ms : List (Nat × Nat)) (s : St) : Frm ms s s := fun _ _ => rfl
theorem Frm.at {ms : List (Nat × Nat)} {s t : St} (h : Frm ms s t) {n : Nat} (hn : inL ms n = false) : t.slots n = s.slots n := h n hn
theorem Frm.trans {ms : List (Nat × Nat)} {s t u : St} (h : Frm ms s t) (h' : Frm ms t u) : Frm ms s u := fun n hn => by rw [h' n hn, h n hn]
theorem Frm.put {ms : List (Nat × Nat)} {s t : St} (h : Frm ms s t) {d : Option Nat} (hd : okDst ms d = true) (v : AV) : Frm ms s (t.put d v) := by
  intro n hn
  cases d with
  | none => exact h n hn
  | some d =>
    have hne : n ≠ d := by rintro rfl; simp only [okDst] at hd; rw [hn] at hd; cases hd
    simp only [St.put, hne, if_false]; exact h n hn
theorem Frm.hp {ms : List (Nat × Nat)} {s t : St} (h : Frm ms s t) (H : Hp) : Frm ms s (t.withHp H) := h
section
variable {P : Program} {fid : Nat}
theorem opT_frm {ms : List (Nat × Nat)} {tg : Tg} {o : Oper} {st : St} {K : St → Prop} (hd : okDst ms o.dst = true) (hk : opT P fid tg o st K) : opT P fid tg o st (fun s => K s ∧ Frm ms st s) := by
  by_cases hc : post tg o = true
  · obtain ⟨v, h', _, h1, h2⟩ := post_sound hc _ _ hk
    exact h2 st _ (fun _ _ => rfl) rfl ⟨h1, ((Frm.refl ms st).hp h').put hd v⟩
  · cases tg with
    | frz => simp [post, quiet, qS, qL] at hc
    | pure => simp [post, quiet, qS] at hc
    | blk => simp [post, quiet, qS, qL, qB] at hc
    | avoid ss =>
      simp only [opT] at hk ⊢
      refine ⟨hk.1, ?_⟩
      have h1 := hk.1
      unfold avoidO at h1
      split at h1
      · rename_i op t a hop
        simp [post, quiet, qS, qL, isL, hop] at hc
      · exact h1.elim
    | mine =>
      simp only [opT] at hk ⊢
      refine ⟨hk.1, ?_⟩
      have h1 := hk.1
      unfold mineO at h1
      split at h1
      · rename_i hop
        simp [post, quiet, qS, qL, qB, pAny, isSt, hop] at hc
      · exact h1.elim
    | plain =>
      have fr : ∀ v H, Frm ms st ((st.withHp H).put o.dst v) := fun v H => ((Frm.refl ms st).hp H).put hd v
      simp only [opT] at hk ⊢
      unfold opK at hk ⊢
      cases hop : o.op <;> rw [hop] at hk <;> simp only [hop, post, quiet, qS, qL, qB, pAny, calls, isS, isL, isAl, isMk, isAp, isMe, isSt, isCv, Bool.or_true, Bool.or_false, Bool.false_or, not_true_eq_false] at hc <;> try exact hk.elim
      case binOp => exact binK_mono hk fun v h => ⟨h, (Frm.refl ms st).put hd v⟩
      case call c =>
        obtain ⟨callee, args, ats⟩ := c
        cases callee with
        | value f =>
          simp only [calleeK, Callee.ev] at hk ⊢
          unfold callV at hk ⊢
          split at hk
          · exact ⟨hk.1, hk.2.mono fun v H h => ⟨h, fr v H⟩⟩
          · exact hk.mono fun v H h => ⟨h, fr v H⟩
          · exact hk.elim
        | invoke r m => exact hk.elim
        | builtin b =>
          cases b <;> first
            | exact hk.elim
            | (simp at hc; done)
            | (simp only [calleeK] at hk ⊢
               unfold mmK at hk ⊢
               split at hk
               · exact ⟨hk, fr _ _⟩
               · exact hk.elim)
theorem opsK_frm {ms : List (Nat × Nat)} {K : St → Prop} : ∀ (ops : List Oper) (tg : List Tg) (done : List (Option Nat)) (st : St), (∀ o ∈ ops, okDst ms o.dst = true) → (∀ d ∈ done, okDst ms d = true) →
    opsK P fid tg done ops st K → opsK P fid tg done ops st (fun s => K s ∧ Frm ms st s) := by
  intro ops
  induction ops with
  | nil => intro tg done st _ _ h; exact ⟨h, Frm.refl _ _⟩
  | cons o ops ih =>
    intro tg done st ho hdn h
    have ho1 := ho o List.mem_cons_self
    have ho2 : ∀ o ∈ ops, okDst ms o.dst = true := fun x hx => ho x (List.mem_cons_of_mem _ hx)
    have hdn2 : ∀ d ∈ done ++ [o.dst], okDst ms d = true := fun d hd => by
      rcases List.mem_append.1 hd with h1 | h1
      · exact hdn d h1
      · rw [List.mem_singleton.1 h1]; exact ho1
    have step : ∀ (st1 : St), Frm ms st st1 → opsK P fid (tailT tg) (done ++ [o.dst]) ops st1 K → opsK P fid (tailT tg) (done ++ [o.dst]) ops st1 (fun s => K s ∧ Frm ms st s) := fun st1 hf hk => opsK_mono (fun s hs => ⟨hs.1, hf.trans hs.2⟩) _ _ _ _ (ih _ _ st1 ho2 hdn2 hk)
    simp only [opsK] at h ⊢
    unfold guardG at h ⊢
    split at h
    · exact opT_mono (opT_frm ho1 h) fun s hs => step s hs.2 hs.1
    · rename_i j want hg
      unfold guardO at h ⊢
      split at h
      · rename_i d hd
        have hdk : okDst ms (some d) = true := by
          have : (some d) ∈ done := by
            rw [List.getD_eq_getElem?_getD] at hd
            cases hx : done[j]? with
            | none => rw [hx] at hd; cases hd
            | some y => rw [hx] at hd; simp only [Option.getD_some] at hd; subst hd; exact List.mem_of_getElem? hx
          exact hdn _ this
        have fd : ∀ b, Frm ms st (st.put (some d) (.bool b)) := fun b => (Frm.refl ms st).put hdk _
        simp only [hd]
        unfold guardK at h ⊢
        split at h
        · rename_i b hb
          exact ⟨fun e => opT_mono (opT_frm ho1 (h.1 e)) fun s hs => step s ((fd _).trans hs.2) hs.1, fun e => step _ ((fd _).put ho1 _) (h.2 e)⟩
        · exact step _ ((Frm.refl ms st).put ho1 _) h
        · exact h.elim
      · exact h.elim
variable {T : Nat → List Tg}
theorem awp_frm {ms : List (Nat × Nat)} : ∀ {c : Code} {Q : Ex → St → Prop} {st : St}, modsIn ms c = true → awp P fid T c Q st → awp P fid T c (fun x s => Q x s ∧ Frm ms st s) st := by
  intro c
  induction c with
  | skip => intro Q st _ h; simp only [awp] at h ⊢; exact ⟨h, Frm.refl _ _⟩
  | region id ops dr =>
    intro Q st hm h
    simp only [awp] at h ⊢
    simp only [modsIn, List.all_eq_true] at hm
    exact opsK_frm _ _ _ _ hm (fun d hd => by cases hd) h
  | seq a b iha ihb =>
    intro Q st hm h
    simp only [modsIn, Bool.and_eq_true] at hm
    simp only [awp] at h ⊢
    refine awp_mono (iha hm.1 h) fun x s hs => ?_
    cases x with
    | normal => exact awp_mono (ihb hm.2 hs.1) fun x s' hs' => ⟨hs'.1, hs.2.trans hs'.2⟩
    | exit id => exact hs
    | ret => exact hs
  | cond c a b iha ihb =>
    intro Q st hm h
    simp only [modsIn, Bool.and_eq_true] at hm
    simp only [awp] at h ⊢
    unfold condK at h ⊢
    split at h
    · exact ⟨fun e => iha hm.1 (h.1 e), fun e => ihb hm.2 (h.2 e)⟩
    · exact h.elim
  | block id c ih =>
    intro Q st hm h
    simp only [awp] at h ⊢
    refine awp_mono (ih hm h) fun x s hs => ?_
    cases x with
    | normal => exact hs
    | exit id' =>
      simp only [blockQ] at hs ⊢
      split <;> rename_i e
      · rw [if_pos e] at hs; exact hs
      · rw [if_neg e] at hs; exact hs
    | ret => exact hs
  | loop c ih =>
    intro Q st hm h
    simp only [awp] at h ⊢
    obtain ⟨I, μ, h1, h2⟩ := h
    refine ⟨fun s => I s ∧ Frm ms st s, μ, ⟨h1, Frm.refl _ _⟩, fun s hs => awp_mono (ih hm (h2 s hs.1)) fun x s' hs' => ?_⟩
    cases x with
    | normal => exact ⟨⟨hs'.1.1, hs.2.trans hs'.2⟩, hs'.1.2⟩
    | exit id => exact ⟨hs'.1, hs.2.trans hs'.2⟩
    | ret => exact ⟨hs'.1, hs.2.trans hs'.2⟩
  | exit id => intro Q st _ h; simp only [awp] at h ⊢; exact ⟨h, Frm.refl _ _⟩
  | label l => intro Q st _ h; simp only [awp] at h ⊢; exact ⟨h, Frm.refl _ _⟩
  | scope c ih => intro Q st hm h; simp only [awp] at h ⊢; exact ih hm h
  | ret => intro Q st _ h; simp only [awp] at h ⊢; exact ⟨h, Frm.refl _ _⟩
  | goto l => intro Q st _ h; simp only [awp] at h
  | rangeFunc g ps x y _ _ =>
    intro Q st _ h
    simp only [awp] at h ⊢
    unfold rangeK at h ⊢
    split at h
    · refine ⟨h.1, h.2.mono fun r h' hk => ?_⟩
      unfold endLpC at hk ⊢
      have fr : ∀ H : Hp, Frm ms st ⟨st.slots, H⟩ := fun H n _ => rfl
      split at hk
      · exact ⟨hk, fr _⟩
      · exact ⟨hk, fr _⟩
      · exact ⟨hk, fr _⟩
      · exact hk.elim
    · exact h.elim
  | refuse why => intro Q st _ h; simp only [awp] at h
/-- A cut: what the first part does not set need not be said. -/
theorem awp_cutF {a b : Code} {Q : Ex → St → Prop} {st : St} (ms : List (Nat × Nat)) (hm : modsIn ms a = true) (M : St → Prop) (h1 : awp P fid T a (thenQ M Q) st) (h2 : ∀ s, Frm ms st s → M s → awp P fid T b Q s) : awp P fid T (.seq a b) Q st := by
  simp only [awp]
  refine awp_mono (awp_frm hm h1) fun x s hs => ?_
  cases x with
  | normal => exact h2 s hs.2 hs.1
  | exit id => exact hs.1
  | ret => exact hs.1
/-- A range's assignment, and what is known behind it. -/
theorem awp_asgF {asg bd : Code} {Q : Ex → St → Prop} {st : St} (ms : List (Nat × Nat)) (hm : modsIn ms asg = true) (M : St → Prop) (h1 : awp P fid T asg (asgQ M) st) (h2 : ∀ s, Frm ms st s → M s → awp P fid T bd Q s) : awp P fid T asg (asgQ (awp P fid T bd Q)) st := by
  refine awp_mono (awp_frm hm h1) fun x s hs => ?_
  cases x with
  | normal => exact h2 s hs.2 hs.1
  | exit id => exact hs.1
  | ret => exact hs.1
theorem KeepsF.nil (h H : Hp) : KeepsF [] h H := fun _ hM => by cases hM
/-- A loop that counts up: the slots outside the list stay. -/
theorem awp_countF {c : Code} {Q : Ex → St → Prop} {st : St} (ms : List (Nat × Nat)) (hm : modsIn ms c = true) (ti tn : Nat) (htn : inL ms tn = false) (n : Nat) (hb : n ≤ 9223372036854775807) (J : Nat → St → Prop)
    (h0 : st.slots ti = .int .i64 0) (h1 : st.slots tn = .int .i64 n) (hJ : J 0 st)
    (step : ∀ (i : Nat) (s : St), i < n → decide ((i : Int) < n) = true → IntKind.i64.wrap ((i : Int) + 1) = ((i + 1 : Nat) : Int) → Frm ms st s → s.slots ti = .int .i64 i → s.slots tn = .int .i64 n → J i s →
      awp P fid T c (thenQ (fun s' => s'.slots ti = .int .i64 ((i + 1 : Nat) : Int) ∧ J (i + 1) s') Q) s)
    (last : ∀ s : St, decide ((n : Int) < n) = false → Frm ms st s → s.slots ti = .int .i64 n → s.slots tn = .int .i64 n → J n s → awp P fid T c (thenQ (fun _ => False) Q) s) :
    awp P fid T (.loop c) Q st := by
  refine awp_count ti tn n hb (fun i s => Frm ms st s ∧ J i s) h0 h1 ⟨Frm.refl _ _, hJ⟩ ?_ ?_
  · rintro i s hi d2 hw g0 g1 ⟨hf, hj⟩
    refine awp_mono (awp_frm hm (step i s hi d2 hw hf g0 g1 hj)) fun x s' hs' => ?_
    cases x with
    | normal => exact ⟨hs'.1.1, by rw [hs'.2 tn htn]; exact g1, hf.trans hs'.2, hs'.1.2⟩
    | exit id => exact hs'.1
    | ret => exact hs'.1
  · rintro s d2 g0 g1 ⟨hf, hj⟩
    exact last s d2 hf g0 g1 hj
end
end Go.T
