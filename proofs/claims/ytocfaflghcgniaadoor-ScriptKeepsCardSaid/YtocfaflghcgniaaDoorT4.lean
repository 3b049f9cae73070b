/- Part of a proof: a small logic of programs over plain values, shown sound for the given machine. -/
import Derived.Test.YtocfaflghcgniaaDoorT3
import Derived.Lib.LaidTab
import Derived.Lib.AppendIntMem
import Derived.Lib.ConvBytes
namespace Go.Gh
end Go.Gh
/- Conditions kept from simp: the ways behind a condition are walked one by one. -/
namespace Go.T
open Go
def CondX (t : Bool) (A B : Prop) (_ : Tok (A, B)) : Prop := (t = true → A) ∧ (t = false → B)
section
variable {A B C : Prop} {t : Bool} {u : Tok (A, B)}
@[congr] theorem CondX_congr {t' : Bool} (e : t = t') : CondX t A B u = CondX t' A B u := by subst e; rfl
@[go_sem ↓, go_sem] theorem CondX_not : CondX (!t) A B u = CondX t B A ⟨⟩ := by cases t <;> simp [CondX]
@[go_sem ↓ 2000, go_sem 2000] theorem condK_x : condK (.bool t) A B = CondX t A B ⟨⟩ := propext Iff.rfl
@[go_sem ↓ 1900, go_sem 1900] theorem guardK_xt : guardK (.bool t) true A B C = CondX t A B ⟨⟩ := propext Iff.rfl
@[go_sem ↓ 1900, go_sem 1900] theorem guardK_xf : guardK (.bool t) false A B C = CondX t B A ⟨⟩ := by
  cases t <;> simp [guardK, CondX]
theorem CondX.bool (ha : t = true → A) (hb : t = false → B) : CondX t A B u := ⟨ha, hb⟩
theorem CondX.dec {p : Prop} [Decidable p] (ha : p → A) (hb : ¬p → B) : CondX (decide p) A B u := ⟨fun h => ha (of_decide_eq_true h), fun h => hb (of_decide_eq_false h)⟩
theorem CondX.beq {α : Type} [BEq α] [LawfulBEq α] {a b : α} (ha : a = b → A) (hb : a ≠ b → B) : CondX (a == b) A B u := ⟨fun h => ha (by simpa using h), fun h => hb (by simpa using h)⟩
theorem CondX.bne {α : Type} [BEq α] [LawfulBEq α] {a b : α} (ha : a ≠ b → A) (hb : a = b → B) : CondX (a != b) A B u := ⟨fun h => ha (by simpa using h), fun h => hb (by simpa using h)⟩
end
theorem CallX.id {P : Program} {f : FuncId} {args : List AV} {h : Hp} {K : AV → Hp → Prop} {u : Tok K} (hc : CallX P f args h K u) : CallX P f args h K u := hc
theorem alloc_set {h : Hp} {f s : Nat} {c c' : Con} (hc : c.keep c' = c') : (h.alloc f s c).set ⟨f, s, h.cnt f s⟩ c' = h.alloc f s c' := by
  unfold Hp.set Hp.alloc
  congr 1
  funext M
  by_cases hM : M = ⟨f, s, h.cnt f s⟩
  · simp [hM, hc]
  · simp [hM]
@[go_sem] theorem alloc_set_blk {h : Hp} {f s : Nat} {cs : List AV} {c' : Con} : (h.alloc f s (.blk cs)).set ⟨f, s, h.cnt f s⟩ c' = h.alloc f s c' := alloc_set (by simp [Con.keep])
@[go_sem] theorem alloc_set_arr {h : Hp} {f s n : Nat} {cs : List AV} {c' : Con} : (h.alloc f s (.arr n cs)).set ⟨f, s, h.cnt f s⟩ c' = h.alloc f s c' := alloc_set (by simp [Con.keep])
theorem wrap_in {x : Int} (h : -9223372036854775808 ≤ x ∧ x ≤ 9223372036854775807) : IntKind.i64.wrap x = x := IntWalk.i64_in x h
@[go_sem] theorem toNat_succ {i : Nat} : ((i : Int) + 1).toNat = i + 1 := by omega
@[go_sem] theorem toNat_pred {i : Nat} : ((i : Int) - 1).toNat = i - 1 := by omega
@[go_sem] theorem toNat_z : Int.toNat 0 = 0 := by omega
/-- A loop with a measure beside the state. -/
theorem awp_fuel {P : Program} {fid : Nat} {T : Nat → List Tg} {c : Code} {Q : Ex → St → Prop} {st : St} (I : Nat → St → Prop) (n : Nat) (h0 : I n st)
    (step : ∀ k s, I k s → awp P fid T c (thenQ (fun s' => ∃ k', k' < k ∧ I k' s') Q) s) : awp P fid T (.loop c) Q st := by
  classical
  simp only [awp]
  have key : ∀ s, (∃ k, I k s) → ∃ k, I k s ∧ ∀ m, I m s → k ≤ m := by
    intro s ⟨k, hk⟩
    induction k using Nat.strongRecOn with
    | _ k ih =>
      by_cases hm : ∃ m, m < k ∧ I m s
      · obtain ⟨m, h1, h2⟩ := hm; exact ih m h1 h2
      · exact ⟨k, hk, fun m h => Nat.le_of_not_lt fun hl => hm ⟨m, hl, h⟩⟩
  refine ⟨fun s => ∃ k, I k s, fun s => if h : ∃ k, I k s then Classical.choose (key s h) else 0, ⟨n, h0⟩, fun s hs => ?_⟩
  have hc := Classical.choose_spec (key s hs)
  refine awp_mono (step _ s hc.1) fun x s' hq => ?_
  cases x with
  | normal =>
    obtain ⟨k', h1, h2⟩ := hq
    have he : ∃ k, I k s' := ⟨k', h2⟩
    refine ⟨he, ?_⟩
    simp only [dif_pos he, dif_pos hs]
    have := (Classical.choose_spec (key s' he)).2 k' h2
    omega
  | exit id => exact hq
  | ret => exact hq
@[go_sem] theorem isEmpty_nil {α : Type} : ((#[] : Array α).isEmpty = true) = True := by simp
theorem exI {p : Prop} {q : p → Prop} (h : p) (hq : q h) : ∃ h, q h := ⟨h, hq⟩
theorem PureX.id {P : Program} {f : FuncId} {args : List AV} {K : AV → Prop} {u : Tok K} (hc : PureX P f args K u) : PureX P f args K u := hc
theorem awp_assoc {P : Program} {fid : Nat} {T : Nat → List Tg} {a b c : Code} {Q : Ex → St → Prop} {st : St} : awp P fid T (.seq a (.seq b c)) Q st = awp P fid T (.seq (.seq a b) c) Q st := by
  simp only [awp]
  have : (thenQ (fun s => awp P fid T b (thenQ (fun s => awp P fid T c Q s) Q) s) Q) = thenQ (awp P fid T b (thenQ (awp P fid T c Q) Q)) (thenQ (awp P fid T c Q) Q) := by
    funext x s
    cases x <;> rfl
  rw [← this]
theorem drop_cons {α : Type} {l : List α} {i : Nat} (h : i < l.length) : l.drop i = l[i] :: l.drop (i + 1) := List.drop_eq_getElem_cons h
theorem awp_seq_scope {P : Program} {fid : Nat} {T : Nat → List Tg} {a c : Code} {Q : Ex → St → Prop} {st : St} : awp P fid T (.seq a (.scope c)) Q st = awp P fid T (.seq a c) Q st := by simp only [awp]
/-- What stands ahead of the second half of a pair goes with the first half. -/
theorem awp_mid {P : Program} {fid : Nat} {T : Nat → List Tg} {a b c d : Code} {Q : Ex → St → Prop} {st : St} : awp P fid T (.seq a (.seq (.seq b c) d)) Q st = awp P fid T (.seq (.seq a b) (.seq c d)) Q st := by
  rw [← awp_assoc]
  simp only [awp]
  congr 1
  funext x s
  cases x with
  | normal =>
    simp only [thenQ]
    congr 1
    funext x s
    cases x <;> rfl
  | exit id => rfl
  | ret => rfl
end Go.T
/- Lists that a function gathers: a nil slice first, then an own one. -/
namespace Go.T
open Go
set_option linter.unusedSimpArgs false
/-- What was gathered: v stands for it; its place was not there in h. -/
inductive Acc (h H : Hp) (sz : Nat) : AV → List AV → Prop
  | nil : Acc h H sz (.l true 0 []) []
  | own (L : Lab) (xs : List AV) : H.con L = .arr sz xs → h.con L = .none → Acc h H sz (.os L) xs
theorem Acc.app {h H : Hp} {f s sz bytes : Nat} {v : AV} {xs ys : List AV} {K : AV → Hp → Prop} (a : Acc h H sz v xs) (kp : Keeps h H) (hb : (xs.length + ys.length) * bytes ≤ 2 ^ 47) (hl : xs.length + ys.length < 2 ^ 62) (h0 : 0 < bytes)
    (hk : ∀ H' v', Acc h H' sz v' (xs ++ ys) → Keeps h H' → (∀ M, H.con M ≠ .none → (∀ L, v = .os L → M ≠ L) → H'.con M = H.con M) → (∀ M cs, H.con M = .blk cs → H'.con M = .blk cs) → v' = .os ⟨f, s, H.cnt f s⟩ → K v' H') : appendX H f s sz bytes v ys K := by
  have hn : H.con ⟨f, s, H.cnt f s⟩ = .none := H.ok _ (by simp)
  cases a with
  | nil =>
    simp only [appendX, List.length_nil, Nat.zero_add, List.nil_append, Hp.fresh] at *
    refine ⟨hb, hl, h0, hk _ _ (.own _ _ (by simp [Hp.alloc]) (kp.new f s)) (kp.alloc _ _ _) (fun M hM _ => ?_) (fun M cs hM => ?_) rfl⟩
    · have : M ≠ ⟨f, s, H.cnt f s⟩ := fun hE => hM (hE ▸ hn)
      simp [Hp.alloc, this]
    · have : M ≠ ⟨f, s, H.cnt f s⟩ := fun hE => by rw [hE, hn] at hM; cases hM
      simp [Hp.alloc, this, hM]
  | own L xs hc hL =>
    simp only [appendX, hc, appendC, Hp.fresh]
    refine ⟨trivial, hb, hl, h0, hk _ _ (.own _ _ (by simp [Hp.alloc, Hp.set]) (kp.new f s)) ((kp.set hL _).alloc _ _ _) (fun M hM hE => ?_) (fun M cs hM => ?_) (by simp [Hp.set])⟩
    · have h1 : M ≠ ⟨f, s, H.cnt f s⟩ := fun hE => hM (hE ▸ hn)
      have h2 : M ≠ L := hE L rfl
      simp [Hp.alloc, Hp.set, h1, h2]
    · have h1 : M ≠ ⟨f, s, H.cnt f s⟩ := fun hE => by rw [hE, hn] at hM; cases hM
      have h2 : M ≠ L := fun hE => by rw [hE, hc] at hM; cases hM
      simp [Hp.alloc, Hp.set, h1, h2, hM]
theorem Acc.mono {h H H' : Hp} {sz : Nat} {v : AV} {xs : List AV} (a : Acc h H sz v xs) (hm : ∀ L, v = .os L → H'.con L = H.con L) : Acc h H' sz v xs := by
  cases a with
  | nil => exact .nil
  | own L xs hc hL => exact .own L xs (by rw [hm L rfl, hc]) hL
theorem Acc.alloc {h H : Hp} {sz : Nat} {v : AV} {xs : List AV} (a : Acc h H sz v xs) (f s : Nat) (c : Con) : Acc h (H.alloc f s c) sz v xs := by
  refine a.mono fun L hL => ?_
  subst hL
  cases a with
  | own L xs hc hL =>
    have : L ≠ ⟨f, s, H.cnt f s⟩ := fun hE => by rw [hE, H.ok _ (by simp)] at hc; cases hc
    simp [Hp.alloc, this]
theorem frz_lf (L : Lab) (c : Con) : ∀ v : AV, v.lf = true → v.frz L c = v := by
  intro v
  apply AV.rec (motive_1 := fun v => v.lf = true → v.frz L c = v) (motive_2 := fun vs => AV.lfs vs = true → AV.frzs L c vs = vs)
  all_goals (intros; simp_all [AV.lf, AV.lfs, AV.frz, AV.frzs])
theorem Acc.frzK {h H : Hp} {sz : Nat} {v : AV} {xs : List AV} (mk : AV → AV) (a : Acc h H sz v xs) (kp : Keeps h H) (hmk : ∀ L c v, (mk v).frz L c = mk (v.frz L c)) (hle : ∀ v w, Le v w → Le (mk v) (mk w)) :
    ∃ H', Frz H (mk v) H' (mk (.l false sz xs)) ∧ Keeps h H' := by
  cases a with
  | nil => exact ⟨H, .done _ _ _ (hle _ _ Le.l0), kp⟩
  | own L xs hc hL =>
    refine ⟨H.set L .none, .step _ L _ _ _ (.done _ _ _ ?_), kp.set hL _⟩
    rw [hmk, hc]
    exact hle _ _ (by simp only [AV.frz, if_true]; exact Le.refl _)
theorem Acc.frz {h H : Hp} {sz : Nat} {v : AV} {xs : List AV} (a : Acc h H sz v xs) (kp : Keeps h H) : ∃ H', Frz H v H' (.l false sz xs) ∧ Keeps h H' :=
  Acc.frzK id a kp (fun _ _ _ => rfl) (fun _ _ hl => hl)
theorem Acc.elems {h H : Hp} {sz : Nat} {v : AV} {xs : List AV} (a : Acc h H sz v xs) : ∃ sz', elemsOf H v = some (sz', xs) ∧ (xs ≠ [] → sz' = sz) := by
  cases a with
  | nil => exact ⟨0, rfl, fun h => absurd rfl h⟩
  | own L xs hc hL => exact ⟨sz, by simp only [elemsOf, hc, elemsC], fun _ => rfl⟩
theorem Acc.len {h H : Hp} {sz : Nat} {v : AV} {xs : List AV} {K : AV → Prop} (a : Acc h H sz v xs) (hk : K (.int .i64 xs.length)) : lenK H v K := by
  cases a with
  | nil => simpa [lenK] using hk
  | own L xs hc hL => simpa [lenK, hc, lenC] using hk
end Go.T
/- Ranges over functions: what an iterator does, aas a list; a loop over it. -/
namespace Go.T
open Go
/-- What the functions of F made stays. -/
def KeepsF (F : List Nat) (h H : Hp) : Prop := ∀ M, M.f ∈ F → h.con M ≠ .none → H.con M = h.con M
theorem KeepsF.refl (F : List Nat) (h : Hp) : KeepsF F h h := fun _ _ _ => rfl
theorem KeepsF.alloc {F : List Nat} {h H : Hp} (k : KeepsF F h H) (f s : Nat) (c : Con) : KeepsF F h (H.alloc f s c) := by
  intro M hM hn
  have h1 := k M hM hn
  have : M ≠ ⟨f, s, H.cnt f s⟩ := fun hE => hn (by rw [← h1, hE]; exact H.ok _ (by simp))
  simp [Hp.alloc, this, h1]
theorem KeepsF.set {F : List Nat} {h H : Hp} (k : KeepsF F h H) {L : Lab} (hL : L.f ∉ F) (c : Con) : KeepsF F h (H.set L c) := by
  intro M hM hn
  have : M ≠ L := fun hE => hL (hE ▸ hM)
  simp [Hp.set, this, k M hM hn]
theorem KeepsF.trans {F : List Nat} {h H H' : Hp} (k : KeepsF F h H) (k' : KeepsF F H H') : KeepsF F h H' := by
  intro M hM hn
  have h1 := k M hM hn
  rw [k' M hM (by rw [h1]; exact hn), h1]
theorem KeepsF.keeps {F : List Nat} {h H : Hp} (k : Keeps h H) : KeepsF F h H := fun M _ hn => (k M).resolve_left hn
/-- Heaps that differ only where functions of F made something new, and in new marks of ranges. -/
def SameF (F : List Nat) (h g g' : Hp) : Prop := ∀ M, (h.con M ≠ .none ∨ (M.f ∉ F ∧ M.s ≠ lpSlot)) → g'.con M = g.con M
theorem SameF.keeps {F : List Nat} {h0 h g g' : Hp} (s : SameF F h g g') (kh : Keeps h0 h) (k : Keeps h0 g) : Keeps h0 g' := by
  intro M
  rcases kh M with h1 | h1
  · exact .inl h1
  · by_cases hn : h0.con M = .none
    · exact .inl hn
    · rw [s M (.inl (by rw [h1]; exact hn))]
      exact k M
theorem SameF.acc {F : List Nat} {h0 h g g' : Hp} {sz : Nat} {v : AV} {xs : List AV} (s : SameF F h g g') (a : Acc h0 g sz v xs) (hv : ∀ L, v = .os L → L.f ∉ F ∧ L.s ≠ lpSlot) : Acc h0 g' sz v xs :=
  a.mono fun L hL => s L (.inr (hv L hL))
section
variable {P : Program} {fid : Nat} {T : Nat → List Tg} {gf : FuncId} {caps : List AV} {F : List Nat} {xs : List (List AV)} {ps : List Nat} {asg bd : Code} {Q : Ex → St → Prop} {sl : Nat → AV} {hp : Hp} {n : Nat}
end
theorem drop_at {α : Type} {l r : List α} {k : Nat} {x : α} (h : l.drop k = x :: r) : ∃ hk : k < l.length, l[k] = x ∧ l.drop (k + 1) = r := by
  have hk : k < l.length := by
    rcases Nat.lt_or_ge k l.length with h1 | h1
    · exact h1
    · rw [List.drop_eq_nil_of_le h1] at h; cases h
  rw [List.drop_eq_getElem_cons hk] at h
  exact ⟨hk, (List.cons.inj h).1, (List.cons.inj h).2⟩
theorem drop_end {α : Type} {l : List α} {k : Nat} (h : l.drop k = []) (hk : k ≤ l.length) : k = l.length := by
  have := congrArg List.length h
  simp at this; omega
theorem yield_step {P : Program} {L : Lab} {F : List Nat} {xs r : List (List AV)} {k : Nat} {args : List AV} {H : Hp} {K : AV → Hp → Prop} {u : Tok K} {I : Nat → Hp → Prop} {D : Hp → Prop}
    (hY : ∀ i (hi : i < xs.length) g, I i g → YieldK P L xs[i] g (fun r g' => KeepsF F g g' ∧ ((r = .bool true ∧ I (i + 1) g') ∨ (r = .bool false ∧ D g')))) (hd : xs.drop k = args :: r) (hI : I k H)
    (h1 : ∀ g2, KeepsF F H g2 → I (k + 1) g2 → xs.drop (k + 1) = r → k + 1 ≤ xs.length → K (.bool true) g2) (h2 : ∀ g2, KeepsF F H g2 → D g2 → K (.bool false) g2) : YieldX P L args H K u := by
  obtain ⟨hk, h3, h4⟩ := drop_at hd
  have hy := hY k hk H hI
  rw [h3] at hy
  refine YieldX.of (hy.mono ?_)
  rintro v g2 ⟨kf, ⟨rfl, hi⟩ | ⟨rfl, hdn⟩⟩
  · exact h1 g2 kf hi h4 hk
  · exact h2 g2 kf hdn
@[go_sem] theorem alloc_set_cnt {h : Hp} {f s n : Nat} {cs : List AV} {c' : Con} (hn : h.cnt f s = n) : (h.alloc f s (.blk cs)).set ⟨f, s, n⟩ c' = h.alloc f s c' := by
  subst hn; exact alloc_set_blk
theorem KeepsF.app {F : List Nat} {q H H' : Hp} {v : AV} (k : KeepsF F q H) (fr : ∀ M, H.con M ≠ .none → (∀ L, v = .os L → M ≠ L) → H'.con M = H.con M) (hv : ∀ L, v = .os L → L.f ∉ F) : KeepsF F q H' := by
  intro M hM hn
  have h1 := k M hM hn
  rw [fr M (by rw [h1]; exact hn) (fun L hL e => hv L hL (e ▸ hM)), h1]
end Go.T
/- Lending: a call reads own slices and variables that stay own; the callee is shown at the values that they hold. -/
namespace Go.T
open Go
set_option linter.unusedSimpArgs false
set_option linter.unusedVariables false
/-- Of no label anything is known, but of package variables that are only read. -/
def Con.bare : Con → Con
  | .gl cs => .gl cs
  | _ => .none
def Hp.bare (h : Hp) : Hp := ⟨fun L => (h.con L).bare, h.cnt, fun L hL => by rw [h.ok L hL]; rfl⟩
theorem bare_con (h : Hp) (L : Lab) : h.bare.con L = .none ∨ ∃ cs, h.con L = .gl cs ∧ h.bare.con L = .gl cs := by
  show (h.con L).bare = _ ∨ ∃ cs, _ ∧ (h.con L).bare = _
  cases h.con L with
  | gl cs => exact .inr ⟨cs, rfl, rfl⟩
  | _ => exact .inl rfl
theorem has_bare {e : Env} {h : Hp} {L : Lab} (hL : e.has h.bare L) : False := by
  have := hL.2
  rcases bare_con h L with h1 | ⟨cs, _, h1⟩ <;> rw [h1] at this <;> exact this
theorem live_bare {h : Hp} {L : Lab} (hl : (h.bare.con L).live) : (h.con L).live := by
  rcases bare_con h L with h1 | ⟨cs, h2, h1⟩
  · rw [h1] at hl; exact hl.elim
  · rw [h2]; trivial
/-- What was there, and what H made since. -/
def Hp.merge (h H : Hp) (hc : ∀ f s, h.cnt f s ≤ H.cnt f s) : Hp := ⟨fun L => if L.k < h.cnt L.f L.s then h.con L else H.con L, H.cnt, fun L hL => by
  have := hc L.f L.s
  rw [if_neg (by omega)]
  exact H.ok L hL⟩
mutual
/-- A value that refers to nothing but what was made since h. -/
def AV.sn (h : Hp) : AV → Prop
  | .l _ _ xs => xs = []
  | .ip _ => False
  | .agg cs => AV.sns h cs
  | .tup cs => AV.sns h cs
  | .fn _ cs => AV.sns h cs
  | .pt L _ _ _ => h.cnt L.f L.s ≤ L.k
  | .os L => h.cnt L.f L.s ≤ L.k
  | .mr L => h.cnt L.f L.s ≤ L.k
  | .sl L _ _ _ => h.cnt L.f L.s ≤ L.k
  | .yl _ => False
  | _ => True
def AV.sns (h : Hp) : List AV → Prop
  | [] => True
  | x :: r => AV.sn h x ∧ AV.sns h r
end
theorem sns_iff {h : Hp} : ∀ {xs : List AV}, AV.sns h xs ↔ ∀ x ∈ xs, AV.sn h x := by
  intro xs
  induction xs with
  | nil => simp [AV.sns]
  | cons x r ih => simp [AV.sns, ih]
theorem sns_getD {h : Hp} {xs : List AV} (hx : AV.sns h xs) (j : Nat) : AV.sn h (xs.getD j .undef) := by
  rw [List.getD_eq_getElem?_getD]
  rcases Nat.lt_or_ge j xs.length with hj | hj
  · rw [List.getElem?_eq_getElem hj]; exact sns_iff.1 hx _ (List.getElem_mem hj)
  · rw [List.getElem?_eq_none hj]; simp [AV.sn]
theorem sn_cells {h : Hp} {a : AV} (ha : AV.sn h a) : AV.sns h a.cells := by
  cases a <;> simp_all [AV.cells, AV.sns, AV.sn]
def Con.sn (h : Hp) : Con → Prop
  | .none => True
  | .blk cs => AV.sns h cs
  | .arr _ xs => AV.sns h xs
  | .bt _ cs => AV.sns h cs
  | .ba _ _ => True
  | _ => False
section
variable {w w' : World} {B B' : Nat → Prop} {e e' : Env} {h H : Hp}
theorem E_merge {hc : ∀ f s, h.cnt f s ≤ H.cnt f s} {a : AV} {v : Value} (ha : a.sn h) (hE : e.E H a v) : e.E (h.merge H hc) a v := by
  have key : ∀ L : Lab, h.cnt L.f L.s ≤ L.k → (h.merge H hc).con L = H.con L := fun L hL => by
    simp only [Hp.merge]; rw [if_neg (by omega)]
  cases a with
  | pt L sz i j => exact ⟨hE.1, hE.2.1, fun hl => hE.2.2 (by rw [key L ha] at hl; exact hl)⟩
  | os L => exact ⟨hE.1, hE.2.1, fun hl => hE.2.2 (by rw [key L ha] at hl; exact hl)⟩
  | sl L sz a n => exact ⟨hE.1, hE.2.1, fun hl => hE.2.2 (by rw [key L ha] at hl; exact hl)⟩
  | mr L => exact ⟨hE.1, hE.2.1, fun hl => hE.2.2 (by rw [key L ha] at hl; exact hl)⟩
  | yl L => exact ha.elim
  | _ => exact hE.elim
theorem R_sn {hc : ∀ f s, h.cnt f s ≤ H.cnt f s} {a : AV} {v : Value} (hR : R w B (e.E H) a v) (ha : a.sn h) : R w B' (e.E (h.merge H hc)) a v := by
  induction hR with
  | undef v => exact .undef v
  | un => exact .un
  | int k n => exact .int k n
  | bool b => exact .bool b
  | str s => exact .str s
  | nilp => exact .nilp
  | nilf => exact .nilf
  | nilm => exact .nilm
  | l0 ex sz a c hx => exact .l0 ex sz a c hx
  | l ex sz xs b off cap vs h1 => exact absurd ha h1
  | ip cs b off vs => exact ha.elim
  | agg cs vs h1 _ ih => exact .agg cs vs h1 fun j hj => ih j hj (sns_getD ha j)
  | tup cs vs h1 _ ih => exact .tup cs vs h1 fun j hj => ih j hj (sns_getD ha j)
  | fn f cs vs h1 _ ih => exact .fn f cs vs h1 fun j hj => ih j hj (sns_getD ha j)
  | ref a v hr => exact .ref a v (E_merge ha hr)
end
/-- The arguments, in which the labels Ls are read as what they hold. -/
def lendA : List Lab → Hp → List AV → List AV
  | [], _, args => args
  | L :: r, h, args => match h.con L with
    | .gl _ => lendA r h args
    | c => lendA r (h.set L .none) (args.map (AV.frz L c))
theorem E_bare {e : Env} {h : Hp} {a : AV} {v : Value} (hE : e.E h a v) : e.E h.bare a v := by
  cases a with
  | pt L sz i j => exact ⟨hE.1, hE.2.1, fun hl => hE.2.2 (live_bare hl)⟩
  | os L => exact ⟨hE.1, hE.2.1, fun hl => hE.2.2 (live_bare hl)⟩
  | sl L sz a n => exact ⟨hE.1, hE.2.1, fun hl => hE.2.2 (live_bare hl)⟩
  | mr L => exact ⟨hE.1, hE.2.1, fun hl => hE.2.2 (live_bare hl)⟩
  | yl L => exact hE
  | _ => exact hE.elim
theorem bare_set {h : Hp} {L : Lab} (hg : ∀ cs, h.con L ≠ .gl cs) : (h.set L .none).bare = h.bare := by
  have : (h.set L .none).bare.con = h.bare.con := by
    funext M
    show ((h.set L .none).con M).bare = (h.con M).bare
    rw [set_none_con]
    by_cases hM : M = L
    · rw [if_pos hM, hM]
      cases hc : h.con L with
      | gl cs => exact absurd hc (hg cs)
      | _ => rfl
    · rw [if_neg hM]
  exact Hp.same this rfl
theorem lendA_gl {L : Lab} {Ls : List Lab} {h : Hp} {args : List AV} {cs : List AV} (hc : h.con L = .gl cs) : lendA (L :: Ls) h args = lendA Ls h args := by
  show (match h.con L with | .gl _ => lendA Ls h args | c => lendA Ls (h.set L .none) (args.map (AV.frz L c))) = _
  rw [hc]
theorem lendA_ne {L : Lab} {Ls : List Lab} {h : Hp} {args : List AV} (hg : ∀ cs, h.con L ≠ .gl cs) : lendA (L :: Ls) h args = lendA Ls (h.set L .none) (args.map (AV.frz L (h.con L))) := by
  show (match h.con L with | .gl _ => lendA Ls h args | c => lendA Ls (h.set L .none) (args.map (AV.frz L c))) = _
  cases hc : h.con L with
  | gl cs => exact absurd hc (hg cs)
  | _ => rfl
theorem lend_bare {w : World} {e : Env} {vs : Array Value} : ∀ (Ls : List Lab) {B : Nat → Prop} {h : Hp} {args : List AV}, HRel w B e h → (∀ i, i < args.length → R w B (e.E h) (args.getD i .un) (vs.getD i undef)) →
    ∃ B', (∀ b, B b → B' b) ∧ HRel w B' e h.bare ∧ (lendA Ls h args).length = args.length ∧ ∀ i, i < args.length → R w B' (e.E h.bare) ((lendA Ls h args).getD i .un) (vs.getD i undef) := by
  intro Ls
  induction Ls with
  | nil =>
    intro B h args hh hR
    refine ⟨B, fun _ hb => hb, ⟨fun L hk => ?_, fun L _ hL => (has_bare hL).elim, hh.bnd, hh.glb⟩, rfl, fun i hi => (hR i hi).mono (fun _ _ => rfl) (fun _ hb => hb) (fun _ _ => E_bare)⟩
    rcases bare_con h L with h1 | ⟨cs, h2, h1⟩
    · rw [h1]; trivial
    · rw [h1]
      have hcon := hh.con L hk
      rw [h2] at hcon
      exact ConRel.gl_move (fun _ _ hR => hR.mono (fun _ _ => rfl) (fun _ hb => hb) (fun _ _ => E_bare)) rfl (fun _ _ => rfl) (fun _ hb => hb) hcon
  | cons L Ls ih =>
    intro B h args hh hR
    by_cases hg : ∃ cs, h.con L = .gl cs
    · obtain ⟨cs, hg⟩ := hg
      rw [lendA_gl hg]
      exact ih hh hR
    have hg : ∀ cs, h.con L ≠ .gl cs := fun cs hc => hg ⟨cs, hc⟩
    rw [lendA_ne hg]
    obtain ⟨B', k1, k2, k3, k4⟩ := ih (HRel_frz (L := L) hh) (args := args.map (AV.frz L (h.con L))) (fun i hi => by
      have hi' : i < args.length := by simpa using hi
      have := R_frz (L := L) hh (hR i hi')
      have e1 : (args.map (AV.frz L (h.con L))).getD i .un = (args.getD i .un).frz L (h.con L) := by
        simp [List.getD_eq_getElem?_getD, hi']
      rw [e1]; exact this)
    rw [bare_set hg] at k2 k4
    refine ⟨B', fun b hb => k1 b (.inl hb), k2, by rw [k3, List.length_map], fun i hi => k4 i (by simpa using hi)⟩
/-- **A call to which own things are lent.** -/
theorem CallK.lendG {P : Program} {f : FuncId} {args : List AV} {h : Hp} {K : AV → Hp → Prop} (Ls : List Lab)
    (hc : CallK P f (lendA Ls h args) h.bare (fun r H => r.sn h ∧ (∀ L : Lab, h.cnt L.f L.s ≤ L.k → (H.con L).sn h) ∧ ∀ hle, K r (h.merge H hle))) : CallK P f args h K := by
  intro w B e vs hh hs hR
  obtain ⟨B2, k1, k2, k3, k4⟩ := lend_bare Ls hh hR
  refine (hc w B2 e vs k2 (by rw [k3, hs]) (fun i hi => k4 i (by rw [← k3]; exact hi))).mono ?_
  rintro en w' ⟨v, r, H, B3, e', rfl, g1, g2, g3, g4, g5, g6⟩
  have hle : ∀ f s, h.cnt f s ≤ H.cnt f s := g2.cnt
  have same : ∀ b, b < w.heap.size → w'.heap[b]? = w.heap[b]? := fun b hb => g2.keep b hb fun L hL => (has_bare hL).elim
  have env : ∀ L : Lab, L.k < h.cnt L.f L.s → e'.β L = e.β L ∧ e'.η L = e.η L := g2.env
  have old : ∀ L : Lab, L.k < h.cnt L.f L.s → (h.merge H hle).con L = h.con L := fun L hL => by simp only [Hp.merge]; rw [if_pos hL]
  have new : ∀ L : Lab, ¬ L.k < h.cnt L.f L.s → (h.merge H hle).con L = H.con L := fun L hL => by simp only [Hp.merge]; rw [if_neg hL]
  have bB : ∀ b, B b → B3 b := fun b hb => g2.bsub b (k1 b hb)
  have mE : ∀ a v, e.E h a v → e'.E (h.merge H hle) a v := by
    intro a v hE
    cases a with
    | pt L sz i j => exact ⟨Nat.lt_of_lt_of_le hE.1 (hle _ _), hE.2.1, fun hl => by rw [(env L hE.1).1]; exact hE.2.2 (by rw [old L hE.1] at hl; exact hl)⟩
    | os L => exact ⟨Nat.lt_of_lt_of_le hE.1 (hle _ _), hE.2.1, fun hl => by rw [(env L hE.1).2]; exact hE.2.2 (by rw [old L hE.1] at hl; exact hl)⟩
    | sl L sz a n => exact ⟨Nat.lt_of_lt_of_le hE.1 (hle _ _), hE.2.1, fun hl => by rw [(env L hE.1).2]; exact hE.2.2 (by rw [old L hE.1] at hl; exact hl)⟩
    | mr L => exact ⟨Nat.lt_of_lt_of_le hE.1 (hle _ _), hE.2.1, fun hl => by rw [(env L hE.1).1]; exact hE.2.2 (by rw [old L hE.1] at hl; exact hl)⟩
    | yl L => exact ⟨Nat.lt_of_lt_of_le hE.1 (hle _ _), by rw [(env L hE.1).1]; exact hE.2⟩
    | _ => exact hE.elim
  have mR : ∀ {a v}, R w B (e.E h) a v → R w' B (e'.E (h.merge H hle)) a v := fun g => g.mono (fun b hb => same b (hh.bnd b hb)) (fun _ hb => hb) mE
  have hasO : ∀ L : Lab, L.k < h.cnt L.f L.s → e'.has (h.merge H hle) L → e.has h L := fun L hL hh => by
    refine ⟨hL, ?_⟩
    have := hh.2
    rw [old L hL, (env L hL).2] at this
    exact this
  have hasN : ∀ L : Lab, ¬ L.k < h.cnt L.f L.s → e'.has (h.merge H hle) L → e'.has H L := fun L hL hh => by
    refine ⟨hh.1, ?_⟩
    have := hh.2
    rw [new L hL] at this
    exact this
  have bndO : ∀ L : Lab, e.has h L → (e.β L).block < w.heap.size := fun L hL => by
    have hcon := hh.con L hL.1
    have hm := hL.2
    have lt : ∀ {o : Obj}, w.heap[(e.β L).block]? = some o → (e.β L).block < w.heap.size := fun ho => (Array.getElem?_eq_some_iff.1 ho).1
    cases hc : h.con L with
    | none => rw [hc] at hm; exact hm.elim
    | blk cs => rw [hc] at hcon; obtain ⟨_, _, vs, T, p3, _⟩ := hcon; exact lt p3
    | arr sz xs =>
      rw [hc] at hcon hm
      obtain ⟨a, cap, p1, p2, p3, p4⟩ := hcon
      obtain ⟨a', n', c', q1, q2⟩ := hm
      rcases p4 with p4 | ⟨_, _, _, vs, T, p7, _⟩
      · rw [p1] at q1; injection q1 with _ _ q3; omega
      · exact lt p7
    | lp sl n ps asg bd s => rw [hc] at hcon; obtain ⟨_, r, p2, _⟩ := hcon; exact lt p2
    | mp es ck => rw [hc] at hcon; obtain ⟨_, ents, p2, _⟩ := hcon; exact lt p2
    | bt T cs => rw [hc] at hcon; obtain ⟨_, _, vs, p3, _⟩ := hcon; exact lt p3
    | gl cs => rw [hc] at hm; exact hm.elim
    | ba T bs => rw [hc] at hcon; obtain ⟨_, _, _, p3, _⟩ := hcon; exact lt p3
  have bndN : ∀ L : Lab, e'.has H L → w.heap.size ≤ (e'.β L).block := fun L hL => by
    rcases g2.onew L hL with ⟨M, hM, _⟩ | h1
    · exact (has_bare hM).elim
    · exact h1
  refine ⟨v, r, h.merge H hle, B, e', rfl, ⟨fun L hk => ?_, fun L L' hL hL' hb => ?_, fun b hb => Nat.lt_of_lt_of_le (hh.bnd b hb) g2.size, fun i => ⟨Nat.lt_of_lt_of_le (hh.glb i).1 (hle _ _), by rw [(env (glL i) (hh.glb i).1).1]; exact (hh.glb i).2⟩⟩, ?_, R_sn g3 g4, g6 hle⟩
  · by_cases hL : L.k < h.cnt L.f L.s
    · have hcon := hh.con L hL
      obtain ⟨e1, e2⟩ := env L hL
      rw [old L hL]
      cases hc : h.con L with
      | none => trivial
      | blk cs =>
        have hb := bndO L ⟨hL, by rw [hc]; trivial⟩
        rw [hc] at hcon
        obtain ⟨p1, p2, vs, T, p3, p4, p5⟩ := hcon
        exact ⟨by rw [e1]; exact p1, by rw [e1]; exact p2, vs, T, by rw [e1, same _ hb]; exact p3, p4, fun j hj => mR (p5 j hj)⟩
      | bt T cs =>
        have hb := bndO L ⟨hL, by rw [hc]; trivial⟩
        rw [hc] at hcon
        obtain ⟨p1, p2, vs, p3, p4, p5⟩ := hcon
        exact ⟨by rw [e1]; exact p1, by rw [e1]; exact p2, vs, by rw [e1, same _ hb]; exact p3, p4, fun j hj => mR (p5 j hj)⟩
      | ba T bs =>
        have hb := bndO L ⟨hL, by rw [hc]; trivial⟩
        rw [hc] at hcon
        obtain ⟨p1, cap, cur, p2, p3, p4⟩ := hcon
        exact ⟨by rw [e1]; exact p1, cap, cur, by rw [e1, same _ hb]; exact p2, by rw [e1, e2]; exact p3, p4⟩
      | gl cs =>
        rw [hc] at hcon
        exact ConRel.gl_move (fun _ _ => mR) e1 (fun b hb => same b (hh.bnd b hb)) (fun _ hb => hb) hcon
      | arr sz xs =>
        have hb : ∀ a n c, e.η L = .slice a n c → c ≠ 0 → (e.β L).block < w.heap.size := fun a n c q1 q2 => bndO L ⟨hL, by rw [hc]; exact ⟨a, n, c, q1, q2⟩⟩
        rw [hc] at hcon
        obtain ⟨a, cap, p1, p2, p3, p4⟩ := hcon
        refine ⟨a, cap, by rw [e2]; exact p1, p2, p3, ?_⟩
        by_cases h0 : cap = 0
        · exact .inl h0
        have hb := hb _ _ _ p1 h0
        rcases p4 with p4 | ⟨p4, p5, p6, vs, T, p7, p8, p9⟩
        · exact .inl p4
        · exact .inr ⟨by rw [e1]; exact p4, by rw [e1]; exact p5, by rw [e1]; exact p6, vs, T, by rw [e1, same _ hb]; exact p7, by rw [e1]; exact p8, fun i j hi hj => by rw [e1]; exact ⟨mR (p9 i j hi hj).1, (p9 i j hi hj).2⟩⟩
      | lp sl n ps asg bd s =>
        have hb := bndO L ⟨hL, by rw [hc]; trivial⟩
        rw [hc] at hcon
        obtain ⟨p1, r, p2, p3, p4, p5, p6, p7, p8⟩ := hcon
        exact ⟨by rw [e1]; exact p1, r, by rw [e1, same _ hb]; exact p2, p3, p4, p5, p6, fun i => mR (p7 i), p8⟩
      | mp es ck =>
        have hb := bndO L ⟨hL, by rw [hc]; trivial⟩
        rw [hc] at hcon
        obtain ⟨p1, ents, p2, p3, p4⟩ := hcon
        exact ⟨by rw [e1]; exact p1, ents, by rw [e1, same _ hb]; exact p2, p3, fun j hj => ⟨mR (p4 j hj).1, mR (p4 j hj).2.1, (p4 j hj).2.2⟩⟩
    · have hcon := g1.con L hk
      have hsn := g5 L (by omega)
      rw [new L hL]
      cases hc : H.con L with
      | none => trivial
      | blk cs =>
        rw [hc] at hcon hsn
        obtain ⟨p1, p2, vs, T, p3, p4, p5⟩ := hcon
        exact ⟨fun hb => p1 (bB _ hb), p2, vs, T, p3, p4, fun j hj => R_sn (p5 j hj) (sns_getD hsn j)⟩
      | bt T cs =>
        rw [hc] at hcon hsn
        obtain ⟨p1, p2, vs, p3, p4, p5⟩ := hcon
        exact ⟨fun hb => p1 (bB _ hb), p2, vs, p3, p4, fun j hj => R_sn (p5 j hj) (sns_getD hsn j)⟩
      | gl cs => rw [hc] at hsn; exact hsn.elim
      | ba T bs =>
        rw [hc] at hcon
        obtain ⟨p1, p2⟩ := hcon
        exact ⟨fun hb => p1 (bB _ hb), p2⟩
      | arr sz xs =>
        rw [hc] at hcon hsn
        obtain ⟨a, cap, p1, p2, p3, p4⟩ := hcon
        refine ⟨a, cap, p1, p2, p3, ?_⟩
        rcases p4 with p4 | ⟨p4, p5, p6, vs, T, p7, p8, p9⟩
        · exact .inl p4
        · exact .inr ⟨p4, p5, fun hb => p6 (bB _ hb), vs, T, p7, p8, fun i j hi hj => ⟨R_sn (p9 i j hi hj).1 (sns_getD (sn_cells (sns_iff.1 hsn _ (List.getElem_mem hi))) j), (p9 i j hi hj).2⟩⟩
      | lp sl n ps asg bd s => rw [hc] at hsn; exact hsn.elim
      | mp es ck => rw [hc] at hsn; exact hsn.elim
  · by_cases h1 : L.k < h.cnt L.f L.s <;> by_cases h2 : L'.k < h.cnt L'.f L'.s
    · exact hh.inj _ _ (hasO L h1 hL) (hasO L' h2 hL') (by rw [(env L h1).1, (env L' h2).1] at hb; exact hb)
    · have q1 := bndO L (hasO L h1 hL)
      have q2 := bndN L' (hasN L' h2 hL')
      rw [(env L h1).1] at hb
      omega
    · have q1 := bndO L' (hasO L' h2 hL')
      have q2 := bndN L (hasN L h1 hL)
      rw [(env L' h2).1] at hb
      omega
    · exact g1.inj _ _ (hasN L h1 hL) (hasN L' h2 hL') hb
  · refine ⟨g2.size, g2.os, g2.tape, g2.output, fun _ hb => hb, fun _ hb => .inl hb, fun b hb _ => same b hb, fun L hL => ?_, hle, env, fun L hL hl => by rw [old L hL] at hl; exact hl⟩
    by_cases h1 : L.k < h.cnt L.f L.s
    · exact .inl ⟨L, hasO L h1 hL, by rw [(env L h1).1]⟩
    · exact .inr (bndN L (hasN L h1 hL))
theorem merge_bare {h : Hp} (hle) : h.merge h.bare hle = h := by
  have : (h.merge h.bare hle).con = h.con := by
    funext L
    simp only [Hp.merge, Hp.bare]
    split
    · rfl
    · rw [h.ok L (by omega)]; rfl
  cases h
  simp only [Hp.merge, Hp.bare] at this ⊢
  congr
end Go.T
/- Slots that a code does not set stay: loops and cuts that need not say so. -/
namespace Go.T
open Go
set_option linter.unusedSimpArgs false
set_option linter.unusedVariables false
/-- Whether a slot lies in one of the ranges. -/
def inL : List (Nat × Nat) → Nat → Bool
  | [], _ => false
  | m :: r, n => if m.1 ≤ n then (if n ≤ m.2 then true else inL r n) else inL r n
@[go_sem] theorem inL_nil {n : Nat} : inL [] n = false := by simp [inL]
@[go_sem] theorem inL_cons {a b n : Nat} {r : List (Nat × Nat)} : inL ((a, b) :: r) n = if a ≤ n then (if n ≤ b then true else inL r n) else inL r n := by simp [inL]
/-- Every slot that the code sets is in the list. -/
def okDst (ms : List (Nat × Nat)) (d : Option Nat) : Bool := match d with
  | some n => inL ms n
  | .none => true
def modsIn (ms : List (Nat × Nat)) : Code → Bool
  | .region _ ops _ => ops.toList.all fun o => okDst ms o.dst
  | .seq a b => modsIn ms a && modsIn ms b
  | .cond _ a b => modsIn ms a && modsIn ms b
  | .block _ c => modsIn ms c
  | .loop c => modsIn ms c
  | .scope c => modsIn ms c
  | _ => true
/-- The slots outside the list are those of s. -/
def Frm (ms : List (Nat × Nat)) (s t : St) : Prop := ∀ n, inL ms n = false → t.slots n = s.slots n
theorem Frm.refl (ms : List (Nat × Nat)) (s : St) : Frm ms s s := fun _ _ => rfl
theorem Frm.at {ms : List (Nat × Nat)} {s t : St} (h : Frm ms s t) {n : Nat} (hn : inL ms n = false) : t.slots n = s.slots n := h n hn
theorem Frm.trans {ms : List (Nat × Nat)} {s t u : St} (h : Frm ms s t) (h' : Frm ms t u) : Frm ms s u := fun n hn => by rw [h' n hn, h n hn]
theorem Frm.put {ms : List (Nat × Nat)} {s t : St} (h : Frm ms s t) {d : Option Nat} (hd : okDst ms d = true) (v : AV) : Frm ms s (t.put d v) := by
  intro n hn
  cases d with
  | none => exact h n hn
  | some d =>
    have hne : n ≠ d := by rintro rfl; simp only [okDst] at hd; rw [hn] at hd; cases hd
    simp only [St.put, hne, if_false]; exact h n hn
theorem Frm.hp {ms : List (Nat × Nat)} {s t : St} (h : Frm ms s t) (H : Hp) : Frm ms s (t.withHp H) := h
section
variable {P : Program} {fid : Nat}
theorem opT_frm {ms : List (Nat × Nat)} {tg : Tg} {o : Oper} {st : St} {K : St → Prop} (hd : okDst ms o.dst = true) (hk : opT P fid tg o st K) : opT P fid tg o st (fun s => K s ∧ Frm ms st s) := by
  by_cases hc : post tg o = true
  · obtain ⟨v, h', _, h1, h2⟩ := post_sound hc _ _ hk
    exact h2 st _ (fun _ _ => rfl) rfl ⟨h1, ((Frm.refl ms st).hp h').put hd v⟩
  · cases tg with
    | frz => simp [post, quiet, qS, qL] at hc
    | bts =>
      simp only [opT] at hk ⊢
      unfold btsO at hk ⊢
      split at hk
      · exact btsL_mono hk fun v H hv => ⟨hv, ((Frm.refl ms st).hp H).put hd v⟩
      · exact hk.elim
    | pure => simp [post, quiet, qS] at hc
    | blk => simp [post, quiet, qS, qL, qB] at hc
    | avoid ss =>
      simp only [opT] at hk ⊢
      refine ⟨hk.1, ?_⟩
      have h1 := hk.1
      unfold avoidO at h1
      split at h1
      · rename_i op t a hop
        simp [post, quiet, qS, qL, isL, hop] at hc
      · exact h1.elim
    | mine =>
      simp only [opT] at hk ⊢
      refine ⟨hk.1, ?_⟩
      have h1 := hk.1
      unfold mineO at h1
      split at h1
      · rename_i hop
        simp [post, quiet, qS, qL, qB, pAny, isSt, hop] at hc
      · exact h1.elim
    | plain =>
      have fr : ∀ v H, Frm ms st ((st.withHp H).put o.dst v) := fun v H => ((Frm.refl ms st).hp H).put hd v
      simp only [opT] at hk ⊢
      unfold opK at hk ⊢
      cases hop : o.op <;> rw [hop] at hk <;> simp only [hop, post, quiet, qS, qL, qB, pAny, calls, isS, isL, isAl, isMk, isAp, isMe, isSt, isCv, Bool.or_true, Bool.or_false, Bool.false_or, not_true_eq_false] at hc <;> try exact hk.elim
      case binOp => exact binK_mono hk fun v h => ⟨h, (Frm.refl ms st).put hd v⟩
      case call c =>
        obtain ⟨callee, args, ats⟩ := c
        cases callee with
        | value f =>
          simp only [calleeK, Callee.ev] at hk ⊢
          unfold callV at hk ⊢
          split at hk
          · exact ⟨hk.1, hk.2.mono fun v H h => ⟨h, fr v H⟩⟩
          · exact hk.mono fun v H h => ⟨h, fr v H⟩
          · exact hk.elim
        | invoke r m => exact hk.elim
        | builtin b =>
          cases b <;> first
            | exact hk.elim
            | (simp at hc; done)
            | (simp only [calleeK] at hk ⊢
               unfold mmK at hk ⊢
               split at hk
               · exact ⟨hk, fr _ _⟩
               · exact hk.elim)
theorem opsK_frm {ms : List (Nat × Nat)} {K : St → Prop} : ∀ (ops : List Oper) (tg : List Tg) (done : List (Option Nat)) (st : St), (∀ o ∈ ops, okDst ms o.dst = true) → (∀ d ∈ done, okDst ms d = true) →
    opsK P fid tg done ops st K → opsK P fid tg done ops st (fun s => K s ∧ Frm ms st s) := by
  intro ops
  induction ops with
  | nil => intro tg done st _ _ h; exact ⟨h, Frm.refl _ _⟩
  | cons o ops ih =>
    intro tg done st ho hdn h
    have ho1 := ho o List.mem_cons_self
    have ho2 : ∀ o ∈ ops, okDst ms o.dst = true := fun x hx => ho x (List.mem_cons_of_mem _ hx)
    have hdn2 : ∀ d ∈ done ++ [o.dst], okDst ms d = true := fun d hd => by
      rcases List.mem_append.1 hd with h1 | h1
      · exact hdn d h1
      · rw [List.mem_singleton.1 h1]; exact ho1
    have step : ∀ (st1 : St), Frm ms st st1 → opsK P fid (tailT tg) (done ++ [o.dst]) ops st1 K → opsK P fid (tailT tg) (done ++ [o.dst]) ops st1 (fun s => K s ∧ Frm ms st s) := fun st1 hf hk => opsK_mono (fun s hs => ⟨hs.1, hf.trans hs.2⟩) _ _ _ _ (ih _ _ st1 ho2 hdn2 hk)
    simp only [opsK] at h ⊢
    unfold guardG at h ⊢
    split at h
    · exact opT_mono (opT_frm ho1 h) fun s hs => step s hs.2 hs.1
    · rename_i j want hg
      unfold guardO at h ⊢
      split at h
      · rename_i d hd
        have hdk : okDst ms (some d) = true := by
          have : (some d) ∈ done := by
            rw [List.getD_eq_getElem?_getD] at hd
            cases hx : done[j]? with
            | none => rw [hx] at hd; cases hd
            | some y => rw [hx] at hd; simp only [Option.getD_some] at hd; subst hd; exact List.mem_of_getElem? hx
          exact hdn _ this
        have fd : ∀ b, Frm ms st (st.put (some d) (.bool b)) := fun b => (Frm.refl ms st).put hdk _
        simp only [hd]
        unfold guardK at h ⊢
        split at h
        · rename_i b hb
          exact ⟨fun e => opT_mono (opT_frm ho1 (h.1 e)) fun s hs => step s ((fd _).trans hs.2) hs.1, fun e => step _ ((fd _).put ho1 _) (h.2 e)⟩
        · exact step _ ((Frm.refl ms st).put ho1 _) h
        · exact h.elim
      · exact h.elim
variable {T : Nat → List Tg}
theorem awp_frm {ms : List (Nat × Nat)} : ∀ {c : Code} {Q : Ex → St → Prop} {st : St}, modsIn ms c = true → awp P fid T c Q st → awp P fid T c (fun x s => Q x s ∧ Frm ms st s) st := by
  intro c
  induction c with
  | skip => intro Q st _ h; simp only [awp] at h ⊢; exact ⟨h, Frm.refl _ _⟩
  | region id ops dr =>
    intro Q st hm h
    simp only [awp] at h ⊢
    simp only [modsIn, List.all_eq_true] at hm
    exact opsK_frm _ _ _ _ hm (fun d hd => by cases hd) h
  | seq a b iha ihb =>
    intro Q st hm h
    simp only [modsIn, Bool.and_eq_true] at hm
    simp only [awp] at h ⊢
    refine awp_mono (iha hm.1 h) fun x s hs => ?_
    cases x with
    | normal => exact awp_mono (ihb hm.2 hs.1) fun x s' hs' => ⟨hs'.1, hs.2.trans hs'.2⟩
    | exit id => exact hs
    | ret => exact hs
  | cond c a b iha ihb =>
    intro Q st hm h
    simp only [modsIn, Bool.and_eq_true] at hm
    simp only [awp] at h ⊢
    unfold condK at h ⊢
    split at h
    · exact ⟨fun e => iha hm.1 (h.1 e), fun e => ihb hm.2 (h.2 e)⟩
    · exact h.elim
  | block id c ih =>
    intro Q st hm h
    simp only [awp] at h ⊢
    refine awp_mono (ih hm h) fun x s hs => ?_
    cases x with
    | normal => exact hs
    | exit id' =>
      simp only [blockQ] at hs ⊢
      split <;> rename_i e
      · rw [if_pos e] at hs; exact hs
      · rw [if_neg e] at hs; exact hs
    | ret => exact hs
  | loop c ih =>
    intro Q st hm h
    simp only [awp] at h ⊢
    obtain ⟨I, μ, h1, h2⟩ := h
    refine ⟨fun s => I s ∧ Frm ms st s, μ, ⟨h1, Frm.refl _ _⟩, fun s hs => awp_mono (ih hm (h2 s hs.1)) fun x s' hs' => ?_⟩
    cases x with
    | normal => exact ⟨⟨hs'.1.1, hs.2.trans hs'.2⟩, hs'.1.2⟩
    | exit id => exact ⟨hs'.1, hs.2.trans hs'.2⟩
    | ret => exact ⟨hs'.1, hs.2.trans hs'.2⟩
  | exit id => intro Q st _ h; simp only [awp] at h ⊢; exact ⟨h, Frm.refl _ _⟩
  | label l => intro Q st _ h; simp only [awp] at h ⊢; exact ⟨h, Frm.refl _ _⟩
  | scope c ih => intro Q st hm h; simp only [awp] at h ⊢; exact ih hm h
  | ret => intro Q st _ h; simp only [awp] at h ⊢; exact ⟨h, Frm.refl _ _⟩
  | goto l => intro Q st _ h; simp only [awp] at h
  | rangeFunc g ps x y _ _ =>
    intro Q st _ h
    simp only [awp] at h ⊢
    unfold rangeK at h ⊢
    split at h
    · refine ⟨h.1, h.2.mono fun r h' hk => ?_⟩
      unfold endLpC at hk ⊢
      have fr : ∀ H : Hp, Frm ms st ⟨st.slots, H⟩ := fun H n _ => rfl
      split at hk
      · exact ⟨hk, fr _⟩
      · exact ⟨hk, fr _⟩
      · exact ⟨hk, fr _⟩
      · exact hk.elim
    · exact h.elim
  | refuse why => intro Q st _ h; simp only [awp] at h
/-- A cut: what the first part does not set need not be said. -/
theorem awp_cutF {a b : Code} {Q : Ex → St → Prop} {st : St} (ms : List (Nat × Nat)) (hm : modsIn ms a = true) (M : St → Prop) (h1 : awp P fid T a (thenQ M Q) st) (h2 : ∀ s, Frm ms st s → M s → awp P fid T b Q s) : awp P fid T (.seq a b) Q st := by
  simp only [awp]
  refine awp_mono (awp_frm hm h1) fun x s hs => ?_
  cases x with
  | normal => exact h2 s hs.2 hs.1
  | exit id => exact hs.1
  | ret => exact hs.1
/-- A range's assignment, and what is known behind it. -/
theorem awp_asgF {asg bd : Code} {Q : Ex → St → Prop} {st : St} (ms : List (Nat × Nat)) (hm : modsIn ms asg = true) (M : St → Prop) (h1 : awp P fid T asg (asgQ M) st) (h2 : ∀ s, Frm ms st s → M s → awp P fid T bd Q s) : awp P fid T asg (asgQ (awp P fid T bd Q)) st := by
  refine awp_mono (awp_frm hm h1) fun x s hs => ?_
  cases x with
  | normal => exact h2 s hs.2 hs.1
  | exit id => exact hs.1
  | ret => exact hs.1
theorem KeepsF.nil (h H : Hp) : KeepsF [] h H := fun _ hM => by cases hM
/-- A loop that counts up: the slots outside the list stay. -/
theorem awp_countF {c : Code} {Q : Ex → St → Prop} {st : St} (ms : List (Nat × Nat)) (hm : modsIn ms c = true) (ti tn : Nat) (htn : inL ms tn = false) (n : Nat) (hb : n ≤ 9223372036854775807) (J : Nat → St → Prop)
    (h0 : st.slots ti = .int .i64 0) (h1 : st.slots tn = .int .i64 n) (hJ : J 0 st)
    (step : ∀ (i : Nat) (s : St), i < n → decide ((i : Int) < n) = true → IntKind.i64.wrap ((i : Int) + 1) = ((i + 1 : Nat) : Int) → Frm ms st s → s.slots ti = .int .i64 i → s.slots tn = .int .i64 n → J i s →
      awp P fid T c (thenQ (fun s' => s'.slots ti = .int .i64 ((i + 1 : Nat) : Int) ∧ J (i + 1) s') Q) s)
    (last : ∀ s : St, decide ((n : Int) < n) = false → Frm ms st s → s.slots ti = .int .i64 n → s.slots tn = .int .i64 n → J n s → awp P fid T c (thenQ (fun _ => False) Q) s) :
    awp P fid T (.loop c) Q st := by
  refine awp_count ti tn n hb (fun i s => Frm ms st s ∧ J i s) h0 h1 ⟨Frm.refl _ _, hJ⟩ ?_ ?_
  · rintro i s hi d2 hw g0 g1 ⟨hf, hj⟩
    refine awp_mono (awp_frm hm (step i s hi d2 hw hf g0 g1 hj)) fun x s' hs' => ?_
    cases x with
    | normal => exact ⟨hs'.1.1, by rw [hs'.2 tn htn]; exact g1, hf.trans hs'.2, hs'.1.2⟩
    | exit id => exact hs'.1
    | ret => exact hs'.1
  · rintro s d2 g0 g1 ⟨hf, hj⟩
    exact last s d2 hf g0 g1 hj
/-- Any loop, with a measure beside the state: the slots outside the list stay. -/
theorem awp_fuelF {c : Code} {Q : Ex → St → Prop} {st : St} (ms : List (Nat × Nat)) (hm : modsIn ms c = true) (I : Nat → St → Prop) (n : Nat) (h0 : I n st)
    (step : ∀ k s, Frm ms st s → I k s → awp P fid T c (thenQ (fun s' => ∃ k', k' < k ∧ I k' s') Q) s) : awp P fid T (.loop c) Q st := by
  refine awp_fuel (fun k s => Frm ms st s ∧ I k s) n ⟨Frm.refl _ _, h0⟩ ?_
  rintro k s ⟨hf, hi⟩
  refine awp_mono (awp_frm hm (step k s hf hi)) fun x s' hs' => ?_
  cases x with
  | normal => obtain ⟨⟨k', h1, h2⟩, h3⟩ := hs'; exact ⟨k', h1, hf.trans h3, h2⟩
  | exit id => exact hs'.1
  | ret => exact hs'.1
end
end Go.T
/- One value taken for another, cell by cell. -/
namespace Go.T
open Go
/-- Cells, each taken for another. -/
inductive LeF : List AV → List AV → Prop
  | nil : LeF [] []
  | cons {a b : AV} {r s : List AV} : Le a b → LeF r s → LeF (a :: r) (b :: s)
theorem LeF.length {r s : List AV} (h : LeF r s) : r.length = s.length := by
  induction h with
  | nil => rfl
  | cons _ _ ih => simp [ih]
theorem LeF.getD {r s : List AV} (h : LeF r s) : ∀ j, Le (r.getD j .undef) (s.getD j .undef) := by
  induction h with
  | nil => intro j; simpa using Le.refl _
  | cons h1 _ ih =>
    intro j
    cases j with
    | zero => exact h1
    | succ j => simpa using ih j
theorem LeF.refl : ∀ r : List AV, LeF r r := by
  intro r
  induction r with
  | nil => exact .nil
  | cons a r ih => exact .cons (Le.refl a) ih
/-- Elements, the cells of each taken for others. -/
inductive LeR : List AV → List AV → Prop
  | nil : LeR [] []
  | cons {a b : AV} {r s : List AV} : LeF a.cells b.cells → LeR r s → LeR (a :: r) (b :: s)
theorem LeR.length {r s : List AV} (h : LeR r s) : r.length = s.length := by
  induction h with
  | nil => rfl
  | cons _ _ ih => simp [ih]
theorem LeR.at {r s : List AV} (h : LeR r s) : ∀ i (h1 : i < r.length) (h2 : i < s.length), LeF (r[i]).cells (s[i]).cells := by
  induction h with
  | nil => intro i h1; simp at h1
  | cons h0 _ ih =>
    intro i h1 h2
    cases i with
    | zero => exact h0
    | succ i => exact ih i (by simpa using h1) (by simpa using h2)
theorem LeR.map {α : Type} {f g : α → AV} (h : ∀ x, LeF (f x).cells (g x).cells) : ∀ l : List α, LeR (l.map f) (l.map g) := by
  intro l
  induction l with
  | nil => exact .nil
  | cons a r ih => exact .cons (h a) ih
/-- Lent arguments, taken for others. -/
theorem CallK.lendL {P : Program} {f : FuncId} {args args' : List AV} {h : Hp} {r : AV} {K : AV → Hp → Prop} (Ls : List Lab) (hp : PureF P f args' r) (ha : LeF (lendA Ls h args) args') (hr : r.sn h) (hk : K r h) : CallK P f args h K := by
  refine CallK.lendG Ls (CallK.leArg ha.length (fun i hi => ?_) ((hp h.bare).mono ?_))
  · have := ha.getD i
    have h1 : i < args'.length := ha.length ▸ hi
    rw [List.getD_eq_getElem?_getD, List.getD_eq_getElem?_getD, List.getElem?_eq_getElem hi, List.getElem?_eq_getElem h1] at this ⊢
    exact this
  · rintro r' H ⟨rfl, rfl⟩
    exact ⟨hr, fun L hL => by rw [h.bare.ok L hL]; trivial, fun hle => by rw [merge_bare]; exact hk⟩
end Go.T
/- A function that answers a list of its own: the contract that says so, and the one that forgets it. -/
namespace Go.T
open Go
theorem Keeps.trans {h H H' : Hp} (k : Keeps h H) (k' : Keeps H H') : Keeps h H' := by
  intro M
  rcases k M with h1 | h1
  · exact .inl h1
  · rcases k' M with h2 | h2
    · left; rw [← h1]; exact h2
    · right; rw [h2, h1]
theorem Acc.own' {h H : Hp} {sz : Nat} {L : Lab} {xs : List AV} (a : Acc h H sz (.os L) xs) : H.con L = .arr sz xs ∧ h.con L = .none := by
  cases a with
  | own L xs hc hL => exact ⟨hc, hL⟩
end Go.T
/- Freezing a list of elements each of which bears one own slice at most. -/
namespace Go.T
open Go
/-- What was gathered, read as a value: the first step of a freezing. -/
theorem Acc.step {h H : Hp} {sz : Nat} {v : AV} {xs : List AV} (a : Acc h H sz v xs) (kp : Keeps h H) : ∃ (ex : Bool) (sz1 : Nat) (H1 : Hp), (∀ ys : List AV, ys.length = xs.length → Le (.l ex sz1 ys) (.l false sz ys)) ∧ Keeps h H1 ∧
    (∀ M, (∀ L, v = .os L → M ≠ L) → H1.con M = H.con M) ∧ ∀ (mk : AV → AV), (∀ L, v = .os L → ∀ c, (mk v).frz L c = mk (v.frz L c)) → ∀ h' r, Frz H1 (mk (.l ex sz1 xs)) h' r → Frz H (mk v) h' r := by
  cases a with
  | nil =>
    refine ⟨true, 0, H, fun ys hy => ?_, kp, fun M _ => rfl, fun mk _ h' r f => f⟩
    have : ys = [] := List.length_eq_zero_iff.1 (by simpa using hy)
    subst this; exact Le.l0
  | own L xs hc hL =>
    refine ⟨false, sz, H.set L .none, fun ys _ => Le.refl _, kp.set hL _, fun M hM => ?_, fun mk hmk h' r f => .step _ L _ _ _ ?_⟩
    · rw [set_none_con, if_neg (hM L rfl)]
    · rw [hmk L rfl, hc]
      simpa [AV.frz] using f
/-- Rows kept under labels made at one place: for each number one row. -/
inductive Held (h q : Hp) (f s sz : Nat) : List Nat → List (List AV) → Prop
  | nil : Held h q f s sz [] []
  | snoc {ks : List Nat} {cs : List (List AV)} (k : Nat) (c : List AV) : Held h q f s sz ks cs → q.con ⟨f, s, k⟩ = .arr sz c → h.con ⟨f, s, k⟩ = .none → Held h q f s sz (ks ++ [k]) (cs ++ [c])
theorem Held.len {h q : Hp} {f s sz : Nat} {ks : List Nat} {cs : List (List AV)} (a : Held h q f s sz ks cs) : ks.length = cs.length := by
  induction a with
  | nil => rfl
  | snoc k c _ h1 h2 ih => simp [ih]
theorem Held.at {h q : Hp} {f s sz : Nat} {ks : List Nat} {cs : List (List AV)} (a : Held h q f s sz ks cs) : ∀ i (h1 : i < ks.length) (h2 : i < cs.length), q.con ⟨f, s, ks[i]⟩ = .arr sz cs[i] ∧ h.con ⟨f, s, ks[i]⟩ = .none := by
  induction a with
  | nil => intro i h1; simp at h1
  | @snoc ks cs k c ha h1 h2 ih =>
    intro i i1 i2
    have hl := ha.len
    rw [List.length_append, List.length_singleton] at i1 i2
    by_cases hi : i < ks.length
    · rw [List.getElem_append_left hi, List.getElem_append_left (by omega)]
      exact ih i hi (by omega)
    · have e1 : i = ks.length := by omega
      subst e1
      rw [List.getElem_append_right (Nat.le_refl _), List.getElem_append_right (by omega)]
      simp only [Nat.sub_self, List.getElem_cons_zero, hl]
      exact ⟨h1, h2⟩
end Go.T
/- Own answers of a function to which own things are lent. -/
namespace Go.T
open Go
set_option linter.unusedSimpArgs false
set_option linter.unusedVariables false
open Classical in
/-- Of one label alone anything is known. -/
noncomputable def Hp.only (h : Hp) (L : Lab) : Hp := ⟨fun M => if M = L then h.con M else .none, h.cnt, fun M hM => by rw [h.ok M hM]; simp⟩
end Go.T
/- Ranges over functions that keep a variable of their own (SplitSeq and its kin). -/
namespace Go.T
open Go
/-- An iterator over xs that keeps a variable of its own, Lc; cs: what it finds where it begins. -/
def IterL (P : Program) (gf : FuncId) (caps : List AV) (F : List Nat) (Lc : Lab) (cs : List (Lab × Con)) (xs : List (List AV)) : Prop :=
  ∀ (L : Lab) (h : Hp) (K : AV → Hp → Prop) (I : Nat → Hp → Prop) (D : Hp → Prop), (∀ p ∈ cs, p.2 ≠ .none ∧ h.con p.1 = p.2) →
    (∀ i g g', I i g → SameF F (h.set Lc .none) g g' → g'.con L = g.con L → I i g') → (∀ g g', D g → SameF F (h.set Lc .none) g g' → g'.con L = g.con L → D g') → L.f ∉ F → I 0 h →
    (∀ i (hi : i < xs.length) g, I i g → YieldK P L xs[i] g (fun r g' => KeepsF F g g' ∧ ((r = .bool true ∧ I (i + 1) g') ∨ (r = .bool false ∧ D g')))) →
    (∀ g, I xs.length g → K (.tup []) g) → (∀ g, D g → K (.tup []) g) → CallK P gf (.yl L :: caps) h K
section
variable {P : Program} {fid : Nat} {T : Nat → List Tg} {gf : FuncId} {caps : List AV} {F : List Nat} {xs : List (List AV)} {ps : List Nat} {asg bd : Code} {Q : Ex → St → Prop} {sl : Nat → AV} {hp : Hp} {n : Nat} {Lc : Lab} {cs : List (Lab × Con)}
theorem iter_ruleL (hm : P.follows .mixedOrders = true) (it : IterL P gf caps F Lc cs xs) (hc0 : ∀ p ∈ cs, p.2 ≠ .none ∧ hp.con p.1 = p.2) (hLF : Lc.f ∈ F) (hF : fid ∉ F) (hn : ntm P fid = n) (hps : ∀ p ∈ ps, p < n) (hok1 : okCode n T asg = true) (hok2 : okCode n T bd = true) (hlen : ∀ x ∈ xs, x.length = ps.length)
    (J : Nat → Hp → Prop) (D : Ex → Hp → Prop)
    (stab : ∀ i g g', J i g → SameF F (hp.set Lc .none) g g' → J i g') (stabD : ∀ x g g', D x g → SameF F (hp.set Lc .none) g g' → D x g') (h0 : J 0 hp)
    (step : ∀ i (hi : i < xs.length) g, J i g → awp P fid T asg (asgQ (awp P fid T bd (fun x s => KeepsF F g s.hp ∧ match x with | .normal => J (i + 1) s.hp | x => D x s.hp))) (putS ps xs[i] ⟨sl, g⟩))
    (fin : ∀ g, J xs.length g → Q .normal ⟨sl, g⟩) (brk : ∀ x g, x ≠ .normal → D x g → Q x ⟨sl, g⟩) (u : Tok (fun (_ : AV) (h : Hp) => endLpC (h.con ⟨fid, lpSlot, hp.cnt fid lpSlot⟩) (fun x => Q x ⟨sl, h.set ⟨fid, lpSlot, hp.cnt fid lpSlot⟩ .none⟩))) :
    CallX P gf (.yl ⟨fid, lpSlot, hp.cnt fid lpSlot⟩ :: caps) (hp.alloc fid lpSlot (.lp sl n ps asg bd .ready)) (fun _ h => endLpC (h.con ⟨fid, lpSlot, hp.cnt fid lpSlot⟩) (fun x => Q x ⟨sl, h.set ⟨fid, lpSlot, hp.cnt fid lpSlot⟩ .none⟩)) u := by
  obtain ⟨L, hL⟩ : ∃ L : Lab, (⟨fid, lpSlot, hp.cnt fid lpSlot⟩ : Lab) = L := ⟨_, rfl⟩
  revert u
  rw [hL]
  intro u
  have Lf : L.f = fid := by rw [← hL]
  have Ls : L.s = lpSlot := by rw [← hL]
  have Ln : hp.con L = .none := by rw [← hL]; exact hp.ok _ (by simp)
  have hpn : ∀ M, hp.con M = .none → (hp.set Lc .none).con M = .none := fun M hM => by
    rcases drop_none (h := hp) (L := Lc) M with h1 | h1
    · exact h1
    · rw [h1, hM]
  have LcL : Lc ≠ L := fun hE => hF (by rw [← Lf, ← hE]; exact hLF)
  have neL : ∀ M, ((hp.set Lc .none).con M ≠ .none ∨ (M.f ∉ F ∧ M.s ≠ lpSlot)) → M ≠ L := fun M hM hE => by
    subst hE
    rcases hM with h1 | h1
    · exact h1 (hpn _ Ln)
    · exact h1.2 Ls
  have setS : ∀ (g : Hp) (c : Con), SameF F (hp.set Lc .none) g (g.set L c) := fun g c M hM => by
    have := neL M hM
    simp [Hp.set, this]
  have alS : ∀ (c : Con), SameF F (hp.set Lc .none) hp (hp.alloc fid lpSlot c) := fun c M hM => by
    have h1 := neL M hM
    rw [← hL] at h1
    simp [Hp.alloc, h1]
  have alS' : ∀ (c : Con) M, ((hp.set Lc .none).con M ≠ .none) → ((hp.alloc fid lpSlot c).set Lc .none).con M = (hp.set Lc .none).con M := fun c M hM => by
    have h1 := neL M (.inl hM)
    rw [← hL] at h1
    rw [set_none_con, set_none_con]
    by_cases hE : M = Lc
    · rw [if_pos hE, if_pos hE]
    · rw [if_neg hE, if_neg hE]; simp [Hp.alloc, h1]
  have conL : ∀ c, (hp.alloc fid lpSlot c).con L = c := fun c => by rw [← hL]; simp [Hp.alloc]
  have sub : ∀ g g', SameF F ((hp.alloc fid lpSlot (.lp sl n ps asg bd .ready)).set Lc .none) g g' → SameF F (hp.set Lc .none) g g' := fun g g' s M hh => s M (hh.imp (fun h1 h2 => h1 ((alS' _ M h1).symm.trans h2)) id)
  refine CallX.of (it L _ _ (fun i g => g.con L = .lp sl n ps asg bd .ready ∧ J i (g.set L .none)) (fun g => ∃ x, x ≠ .normal ∧ g.con L = .lp sl n ps asg bd (.done x) ∧ D x (g.set L .none)) (fun p hp' => ⟨(hc0 p hp').1, by
    have h1 := hc0 p hp'
    have h2 : p.1 ≠ L := fun hE => h1.1 (by rw [← h1.2, hE, Ln])
    rw [← hL] at h2
    simp [Hp.alloc, h2, h1.2]⟩) ?_ ?_ (by rw [Lf]; exact hF) ?_ ?_ ?_ ?_)
  · rintro i g g' ⟨q1, q2⟩ hs hl
    exact ⟨by rw [hl, q1], stab i _ _ q2 fun M hh => by rw [setS g' .none M hh, setS g .none M hh]; exact sub _ _ hs M hh⟩
  · rintro g g' ⟨x, q0, q1, q2⟩ hs hl
    exact ⟨x, q0, by rw [hl, q1], stabD x _ _ q2 fun M hh => by rw [setS g' .none M hh, setS g .none M hh]; exact sub _ _ hs M hh⟩
  · exact ⟨conL _, stab 0 _ _ h0 fun M hh => by rw [setS _ .none M hh]; exact alS _ M hh⟩
  · rintro i hi g ⟨q1, q2⟩
    have hk := lt_of_con q1 (by simp)
    refine YieldK.of_awpC hm fid T q1 hn hps hok1 hok2 (hlen _ (List.getElem_mem hi)) (awp_mono (step i hi _ q2) fun x s hs => ?_)
    cases x with
    | exit id => exact hs.elim
    | ret => exact hs.elim
    | normal =>
      refine awp_mono hs fun x s ⟨hs1, hs2⟩ hc => ?_
      have hkc : L.k < s.hp.cnt L.f L.s := Nat.lt_of_lt_of_le hk (hc _ _)
      have kf : ∀ c, KeepsF F g (s.hp.back L c) := fun c M hM hn => by
        have : M ≠ L := fun hE => hF (by rw [← Lf, ← hE]; exact hM)
        rw [back_con hkc, if_neg this]
        have h2 : (g.set L .none).con M = g.con M := by simp [Hp.set, this]
        rw [← h2] at hn ⊢
        exact hs1 M hM hn
      have bS : ∀ c, SameF F (hp.set Lc .none) s.hp ((s.hp.back L c).set L .none) := fun c M hM => by
        have := neL M hM
        simp [Hp.set, this, back_con hkc]
      have bL : ∀ c, (s.hp.back L c).con L = c := fun c => by rw [back_con hkc, if_pos rfl]
      cases x with
      | normal => exact ⟨kf _, .inl ⟨rfl, bL _, stab _ _ _ hs2 (bS _)⟩⟩
      | exit id => exact ⟨kf _, .inr ⟨rfl, _, by simp, bL _, stabD _ _ _ hs2 (bS _)⟩⟩
      | ret => exact ⟨kf _, .inr ⟨rfl, _, by simp, bL _, stabD _ _ _ hs2 (bS _)⟩⟩
  · rintro g ⟨q1, q2⟩
    rw [q1]
    exact fin _ q2
  · rintro g ⟨x, q0, q1, q2⟩
    rw [q1]
    cases x with
    | normal => exact absurd rfl q0
    | exit id => exact brk _ _ q0 q2
    | ret => exact brk _ _ q0 q2
end
end Go.T
/- Maps of int pairs to counts: m[k]++. -/
namespace Go.T
open Go Go.Gh
set_option linter.unusedSimpArgs false
def mapI : List ((Int × Int) × Int) → Nat → List (AV × AV × Nat)
  | [], _ => []
  | e :: r, i => (pairA e.1, .int .i64 e.2, i) :: mapI r (i + 1)
@[go_sem] theorem cast_zero : ((0 : Nat) : Int) = 0 := by simp
theorem mapI_length : ∀ (es : List ((Int × Int) × Int)) (i : Nat), (mapI es i).length = es.length := by
  intro es
  induction es with
  | nil => intro i; rfl
  | cons e r ih => intro i; simp [mapI, ih]
def cntI : List ((Int × Int) × Int) → Int × Int → Int
  | [], _ => 0
  | e :: r, k => if e.1 = k then e.2 else cntI r k
def setI : List ((Int × Int) × Int) → Int × Int → Int → List ((Int × Int) × Int)
  | [], k, v => [(k, v)]
  | e :: r, k, v => if e.1 = k then (k, v) :: r else e :: setI r k v
/-- Where a key stands. -/
def atI (k : Int × Int) : List ((Int × Int) × Int) → Option Nat
  | [] => .none
  | e :: r => if e.1 = k then some 0 else (atI k r).map (· + 1)
theorem findM_mapI (a b : Int) : ∀ (es : List ((Int × Int) × Int)) (i j : Nat), findM [.int .i64 a, .int .i64 b] (mapI es j) i = some ((atI (a, b) es).map (· + i)) := by
  intro es
  induction es with
  | nil => intro i j; rfl
  | cons e r ih =>
    intro i j
    simp only [mapI, findM, keyEq_pair, atI]
    by_cases h : e.1 = (a, b)
    · simp [h]
    · simp only [h, decide_false, if_false, ih, Option.map_map]
      congr 2
      funext x
      simp; omega
theorem atI_some {k : Int × Int} : ∀ {es : List ((Int × Int) × Int)} {i : Nat}, atI k es = some i → ∀ j, ∃ hi : i < (mapI es j).length, (mapI es j)[i].2.1 = .int .i64 (cntI es k) ∧ (mapI es j)[i].2.2 = i + j ∧ ∀ v, (mapI es j).set i ((mapI es j)[i].1, .int .i64 v, (mapI es j)[i].2.2) = mapI (setI es k v) j ∧ (setI es k v).length = es.length := by
  intro es
  induction es with
  | nil => intro i h; simp [atI] at h
  | cons e r ih =>
    intro i h j
    unfold atI at h
    by_cases hk : e.1 = k
    · rw [if_pos hk] at h
      cases h
      refine ⟨by simp [mapI], by simp [mapI, cntI, hk], by simp [mapI], fun v => ?_⟩
      simp [mapI, setI, hk]
    · rw [if_neg hk] at h
      cases ha : atI k r with
      | none => rw [ha] at h; cases h
      | some m =>
        rw [ha] at h
        simp only [Option.map_some, Option.some.injEq] at h
        subst h
        obtain ⟨h1, h2, h3, h4⟩ := ih ha (j + 1)
        refine ⟨by simp [mapI]; omega, by simp only [mapI, List.getElem_cons_succ, cntI, hk, if_false]; exact h2, by simp only [mapI, List.getElem_cons_succ]; rw [h3]; omega, fun v => ?_⟩
        obtain ⟨h5, h6⟩ := h4 v
        refine ⟨?_, by simp only [setI, hk, if_false, List.length_cons, h6]⟩
        simp only [mapI, List.getElem_cons_succ, List.set_cons_succ, setI, hk, if_false, h5]
theorem atI_none {k : Int × Int} : ∀ {es : List ((Int × Int) × Int)}, atI k es = .none → cntI es k = 0 ∧ ∀ v, setI es k v = es ++ [(k, v)] := by
  intro es
  induction es with
  | nil => intro _; simp [cntI, setI]
  | cons e r ih =>
    intro h
    unfold atI at h
    by_cases hk : e.1 = k
    · rw [if_pos hk] at h; cases h
    · rw [if_neg hk] at h
      have := ih (by simpa using h)
      refine ⟨by simp only [cntI, hk, if_false, this.1], fun v => by simp only [setI, hk, if_false, this.2, List.cons_append]⟩
theorem mapI_snoc (k : Int × Int) (v : Int) : ∀ (es : List ((Int × Int) × Int)) (j : Nat), mapI (es ++ [(k, v)]) j = mapI es j ++ [(pairA k, .int .i64 v, j + es.length)] := by
  intro es
  induction es with
  | nil => intro j; simp [mapI]
  | cons e r ih => intro j; simp [mapI, ih]; omega
theorem LookX.cn {es : List ((Int × Int) × Int)} {a b : Int} {K : AV → Prop} {u : Tok K} (h : K (.int .i64 (cntI es (a, b)))) : LookX [.int .i64 a, .int .i64 b] (mapI es 0) false (.int .i64 0) K u := by
  refine LookX.of (findM_mapI a b es 0 0) ?_
  cases hx : atI (a, b) es with
  | none => rw [(atI_none hx).1] at h; exact h
  | some m =>
    obtain ⟨h1, h2, _⟩ := atI_some hx 0
    refine ⟨h1, ?_⟩
    simp only [Nat.add_zero, h2]
    exact h
/-- A place in a map, got ready for key k. -/
def Slot (es : List ((Int × Int) × Int)) (k : Int × Int) (es1 : List (AV × AV × Nat)) (n1 : Nat) (b : Int) : Prop :=
  ∀ v : Int, ∃ i, findB b es1 0 = some i ∧ ∃ hi : i < es1.length, es1.set i ((es1[i]).1, .int .i64 v, (es1[i]).2.2) = mapI (setI es k v) 0 ∧ n1 = (setI es k v).length
theorem findB_mapI {k : Nat} : ∀ {es : List ((Int × Int) × Int)} {i j : Nat} {tl : List (AV × AV × Nat)}, k < es.length → findB ((k + j : Nat) : Int) (mapI es j ++ tl) i = some (i + k) := by
  induction k with
  | zero =>
    intro es i j tl h
    cases es with
    | nil => simp at h
    | cons e r => simp [mapI, findB]
  | succ k ih =>
    intro es i j tl h
    cases es with
    | nil => simp at h
    | cons e r =>
      have h1 : ¬ ((j : Nat) : Int) = ((k + 1 + j : Nat) : Int) := by omega
      simp only [mapI, List.cons_append, findB, h1, if_false]
      have := ih (es := r) (i := i + 1) (j := j + 1) (tl := tl) (by simpa using h)
      rw [show k + (j + 1) = k + 1 + j by omega] at this
      rw [this]; congr 1; omega
theorem findB_snoc (n : Nat) (e : AV × AV × Nat) (he : e.2.2 = n) : ∀ (es : List ((Int × Int) × Int)) (i j : Nat), j + es.length ≤ n → findB n (mapI es j ++ [e]) i = some (i + es.length) := by
  intro es
  induction es with
  | nil => intro i j _; simp [mapI, findB, he]
  | cons x r ih =>
    intro i j hj
    simp only [List.length_cons] at hj
    have h1 : ¬ ((j : Nat) : Int) = (n : Int) := by omega
    simp only [mapI, List.cons_append, findB, h1, if_false, List.length_cons]
    rw [ih (i + 1) (j + 1) (by omega)]
    congr 1; omega
theorem set_same {h : Hp} {L : Lab} {c : Con} (hc : h.con L = c) : h.set L c = h := by
  cases h with
  | mk con cnt ok =>
    simp only [Hp.set] at *
    congr 1
    funext M
    by_cases hM : M = L
    · subst hM; rw [if_pos rfl, hc]; cases c <;> rfl
    · rw [if_neg hM]
theorem EntryX.cn {H : Hp} {L : Lab} {es : List ((Int × Int) × Int)} {n : Nat} {z : AV} {a b : Int} {K : AV → Hp → Prop} {u : Tok K} (hn : n = es.length) (hL : H.con L = .mp (mapI es 0) n)
    (h : ∀ es1 n1 v c, Slot es (a, b) es1 n1 c → K (.tup [v, .int .i64 c]) (H.set L (.mp es1 n1))) : EntryX H L (mapI es 0) n z [.int .i64 a, .int .i64 b] K u := by
  refine EntryX.of (findM_mapI a b es 0 0) ?_
  cases hx : atI (a, b) es with
  | none =>
    refine h _ _ _ _ fun v => ⟨es.length, ?_, ?_⟩
    · rw [findB_snoc n _ rfl es 0 0 (by omega)]; simp
    · refine ⟨by simp [mapI_length], ?_, by rw [(atI_none hx).2, hn]; simp⟩
      rw [(atI_none hx).2, mapI_snoc, List.set_append_right _ _ (by simp [mapI_length])]
      simp [mapI_length, pairA, List.getElem_append_right, hn]
  | some m =>
    obtain ⟨h1, h2, h3, h4⟩ := atI_some hx 0
    refine ⟨h1, ?_⟩
    have := h (mapI es 0) n ((mapI es 0)[m].2.1) ((mapI es 0)[m].2.2 : Nat) (fun v => ⟨m, ?_, h1, (h4 v).1, by rw [(h4 v).2]; exact hn⟩)
    · rw [set_same hL] at this
      exact this
    · rw [h3]
      have := findB_mapI (k := m) (es := es) (i := 0) (j := 0) (tl := []) (by simpa [mapI_length] using h1)
      simpa using this
theorem StoreX.cn {H : Hp} {L : Lab} {es : List ((Int × Int) × Int)} {es1 : List (AV × AV × Nat)} {n1 : Nat} {k : Int × Int} {b v : Int} {K : Hp → Prop} {u : Tok K} (hs : Slot es k es1 n1 b)
    (h : K (H.set L (.mp (mapI (setI es k v) 0) (setI es k v).length))) : StoreX H L es1 n1 (.int .i64 v) b K u := by
  obtain ⟨i, h1, h2, h3, h4⟩ := hs v
  refine StoreX.of h1 ⟨h2, ?_⟩
  rw [h3, h4]; exact h
end Go.T
/- Helpers that walks of any seat use: lists gathered by append, lending, freezing. (r1's texts have them in LU, LS, LV, TR, TS.) -/
namespace Go.T
open Go
set_option linter.unusedSimpArgs false
theorem lfs_mem : ∀ {l : List AV}, AV.lfs l = true → ∀ d ∈ l, d.lf = true := by
  intro l
  induction l with
  | nil => intro _ d hd; cases hd
  | cons x r ih =>
    intro h d hd
    simp only [AV.lfs, Bool.and_eq_true] at h
    rcases List.mem_cons.1 hd with rfl | hd
    · exact h.1
    · exact ih h.2 d hd
theorem Acc.lend {h H : Hp} {sz : Nat} {v : AV} {xs : List AV} (a : Acc h H sz v xs) : ∃ Ls, ∀ pre post : List AV, AV.lfs pre = true → AV.lfs post = true → LeF (lendA Ls H (pre ++ v :: post)) (pre ++ .l false sz xs :: post) := by
  have app : ∀ {x y : AV} (pre post : List AV), Le x y → LeF (pre ++ x :: post) (pre ++ y :: post) := fun {x y} pre post hl => by
    induction pre with
    | nil => exact .cons hl (LeF.refl _)
    | cons p r ih => exact .cons (Le.refl _) ih
  cases a with
  | nil => exact ⟨[], fun pre post _ _ => app pre post Le.l0⟩
  | own L xs hc hL =>
    refine ⟨[L], fun pre post h1 h2 => ?_⟩
    have e : ∀ l : List AV, AV.lfs l = true → l.map (AV.frz L (.arr sz xs)) = l := fun l hl => by rw [← frzs_map, frzs_id (fun d hd L c => frz_lf L c d (lfs_mem hl d hd))]
    simp only [lendA, hc, List.map_append, List.map_cons, e pre h1, e post h2, AV.frz, if_true]
    exact LeF.refl _
theorem Acc.old {h H : Hp} {sz : Nat} {v : AV} {xs : List AV} (a : Acc h H sz v xs) : ∀ L, v = .os L → L.k < H.cnt L.f L.s := by
  intro L hL
  subst hL
  have := a.own'.1
  apply Classical.byContradiction
  intro hk
  rw [H.ok L (by omega)] at this
  cases this
theorem Acc.keep {h H H' : Hp} {sz : Nat} {v : AV} {xs : List AV} (a : Acc h H sz v xs) (k : Keeps H H') : Acc h H' sz v xs :=
  a.mono fun L hL => by
    subst hL
    rcases k L with h1 | h1
    · rw [a.own'.1] at h1; cases h1
    · exact h1
theorem Acc.cell {h H : Hp} {sz : Nat} {v : AV} {xs : List AV} (a : Acc h H sz v xs) : v.isCell = true := by cases a <;> rfl
theorem Acc.cells {h H : Hp} {sz : Nat} {v : AV} {xs : List AV} (a : Acc h H sz v xs) : v.cells = [v] := by cases a <;> rfl
theorem Le.fn {f : Go.Fn} {aas bs : List AV} (hl : aas.length = bs.length) (h : ∀ j, j < bs.length → Le (aas.getD j .undef) (bs.getD j .undef)) : Le (.fn f aas) (.fn f bs) := by
  intro w B e hh v hR
  obtain ⟨vs, rfl, h1, h2⟩ := R_fn hR
  exact .fn _ _ vs (by rw [h1, hl]) (fun j hj => h j hj _ _ _ _ _ (h2 j (by rw [hl]; exact hj)))
theorem lfs_map {α : Type} (f : α → AV) (h : ∀ x, (f x).lf = true) : ∀ l : List α, AV.lfs (l.map f) = true := by
  intro l
  induction l with
  | nil => simp [AV.lfs]
  | cons x r ih => simp [AV.lfs, h x, ih]
theorem strV_lf {l : List UInt8} : (strV l).lf = true := by simp [strV, AV.lf]
theorem Keeps.cons {h H : Hp} (k : Keeps h H) {L : Lab} {c : Con} (hc : h.con L = c) (hn : c ≠ .none) : H.con L = c := by
  rcases k L with h1 | h1
  · rw [hc] at h1; exact absurd h1 hn
  · rw [h1, hc]
theorem Keeps.gone {h H : Hp} (k : Keeps h H) {L : Lab} (hc : H.con L = .none) : h.con L = .none := by
  rcases k L with h1 | h1
  · exact h1
  · rw [← h1, hc]
theorem KeepsF.same {F : List Nat} {h0 hp g g' : Hp} {Lc : Lab} (kf0 : KeepsF F h0 hp) (hn : h0.con Lc = .none) (kf : KeepsF F h0 g) (hs : SameF F (hp.set Lc .none) g g') : KeepsF F h0 g' := by
  intro M hM hne
  rw [← kf M hM hne]
  have h1 : M ≠ Lc := by rintro rfl; exact hne hn
  refine hs M (.inl ?_)
  rw [set_none_at, if_neg h1, kf0 M hM hne]
  exact hne
theorem lend1 {H : Hp} {L : Lab} {sz : Nat} {xs : List AV} (hc : H.con L = .arr sz xs) : LeF (lendA [L] H [.os L]) [.l false sz xs] := by
  simp only [lendA, hc, List.map_cons, List.map_nil, AV.frz, if_true]
  exact LeF.refl _
theorem Acc.lenE {h H : Hp} {sz : Nat} {v : AV} {xs : List AV} (a : Acc h H sz v xs) (K : AV → Prop) : lenK H v K = K (.int .i64 xs.length) := by
  cases a with
  | nil => simp [lenK]
  | own L xs hc hL => simp [lenK, hc, lenC]
theorem nlp {n : Nat} (h : n < 1000000) : n ≠ lpSlot := by rw [ne_eq, ne_lpSlot h]; exact id
end Go.T
/- The library's contracts as contracts over abstract heaps; package variables that are only read. -/
namespace Go.T
open Go Go.RowKit
theorem Ext.below {w w' : World} {B : Nat → Prop} {e : Env} {h : Hp} (b : Below w.heap.size w w') : Ext w B e h w' B e h where
  size := b.size
  os := b.os
  tape := b.tape
  output := b.output
  bsub _ h := h
  bnew _ h := .inl h
  keep k hk _ := b.block k hk
  onew L hL := .inl ⟨L, hL, rfl⟩
  cnt _ _ := Nat.le_refl _
  env _ _ := ⟨rfl, rfl⟩
  live _ _ h := h
theorem HRel.below {w w' : World} {B : Nat → Prop} {e : Env} {h : Hp} (hh : HRel w B e h) (b : Below w.heap.size w w') : HRel w' B e h := by
  refine hh.free b.size fun k hk => b.block k ?_
  rcases hk with hk | ⟨L, hL, rfl⟩
  · exact hh.bnd k hk
  · exact (hh.lt hL).1
/-- Plain values: ints, bools, strings. -/
def plainV : AV → Option Value
  | .int k n => some (.int k n)
  | .bool b => some (.bool b)
  | .str s => some (.string s)
  | _ => .none
theorem plain_R {w : World} {B : Nat → Prop} {e : Env} {h : Hp} {a : AV} {v v' : Value} (hp : plainV a = some v') (hR : R w B (e.E h) a v) : v = v' := by
  cases hR with
  | int k n => simpa [plainV] using hp
  | bool b => simpa [plainV] using hp
  | str s => simpa [plainV] using hp
  | ref _ _ hE => cases a <;> first | exact hE.elim | (simp [plainV] at hp)
  | _ => simp [plainV] at hp
/-- **A contract of the library's**: plain arguments; nothing that was there turns. -/
theorem CallK.kit {P : Program} {f : FuncId} {args : List AV} {ws : Array Value} {h : Hp} {r : AV} {rv : Value} {K : AV → Hp → Prop} (ha : args.map plainV = ws.toList.map some) (hr : ∀ w B (e : Env), R w B (e.E h) r rv)
    (hc : ∀ w B e, HRel w B e h → Calls P f ws w (fun en w' => en = .returned rv ∧ Below w.heap.size w w')) (hk : K r h) : CallK P f args h K := by
  intro w B e vs hh hs hR
  have hl : args.length = ws.size := by
    have := congrArg List.length ha
    simpa using this
  have hvs : vs = ws := by
    apply Array.ext
    · rw [hs, hl]
    · intro i h1 h2
      have hi : i < args.length := by rw [hl]; exact h2
      have h3 := congrArg (fun l => l[i]?) ha
      simp only [List.getElem?_map, List.getElem?_eq_getElem hi, Option.map_some] at h3
      have h4 : ws.toList[i]? = some ws[i] := by simp [h2]
      rw [h4] at h3
      simp only [Option.map_some, Option.some.injEq] at h3
      have h5 := hR i hi
      rw [List.getD_eq_getElem?_getD, List.getElem?_eq_getElem hi, Option.getD_some] at h5
      have h6 := plain_R h3 h5
      rw [Array.getD_eq_getD_getElem?, Array.getElem?_eq_getElem h1] at h6
      simpa using h6
  subst hvs
  refine (hc w B e hh).mono ?_
  rintro en w' ⟨rfl, hb⟩
  exact ⟨rv, r, h, B, e, rfl, hh.below hb, Ext.below hb, (hr w B e).ext hh (Ext.below hb), hk⟩
theorem PureF.kit {P : Program} {f : FuncId} {args : List AV} {ws : Array Value} {r : AV} {rv : Value} (ha : args.map plainV = ws.toList.map some) (hr : ∀ h w B (e : Env), R w B (e.E h) r rv)
    (hc : ∀ w, Calls P f ws w (fun en w' => en = .returned rv ∧ Below w.heap.size w w')) : PureF P f args r :=
  fun h => CallK.kit ha (hr h) (fun w _ _ _ => hc w) ⟨rfl, rfl⟩
/-- A package variable of ints. -/
theorem TabIs.of {P : Program} {w : World} {B : Nat → Prop} {e : Env} {h : Hp} (hh : HRel w B e h) {name : String} {i : Nat} {k : IntKind} {zs : List Int} (hn : P.globalNamed name = some i) (hg : h.con (glL i) = .gl (zs.map (AV.int k))) :
    Lib.TabIs P w name k zs := by
  obtain ⟨hk, hβ⟩ := hh.glb i
  have hc := hh.con (glL i) hk
  rw [hg] at hc
  obtain ⟨_, _, vs, T, f, hb, hs, hr⟩ := hc
  rw [hβ] at hb
  unfold Lib.TabIs World.var?
  simp only [hn, Option.bind_some, hb, Option.some.injEq]
  simp only [List.length_map] at hs hr
  apply Array.ext
  · simp [hs]
  · intro j h1 h2
    have hj : j < zs.length := by omega
    have h3 := hr j hj
    rw [List.getD_eq_getElem?_getD, List.getElem?_eq_getElem (by simpa using hj), Option.getD_some, List.getElem_map] at h3
    have h4 := R_int h3
    rw [Array.getD_eq_getD_getElem?, Array.getElem?_eq_getElem h1] at h4
    simpa using h4
theorem below_drewN {w : World} {k : Nat} {os : Array Obj} : Below w.heap.size w (Go.Sort.grow (w.drewN k) os) := Go.Lib.below_grow _ w (Nat.le_refl _) k os
end Go.T
