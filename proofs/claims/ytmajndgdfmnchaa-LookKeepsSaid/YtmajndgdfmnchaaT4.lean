/- Part of a proof: a small logic of programs over plain values, shown sound for the given machine. -/
import Derived.Test.YtmajndgdfmnchaaT3
import Derived.Shelf.Spec.SlicesGrow
/- Conditions kept from simp: the ways behind a condition are walked one by one. -/
namespace Go.T
open Go
def CondX (t : Bool) (A B : Prop) (_ : Tok (A, B)) : Prop := (t = true → A) ∧ (t = false → B)
section
variable {A B C : Prop} {t : Bool} {u : Tok (A, B)}
@[congr] theorem CondX_congr {t' : Bool} (e : t = t') : CondX t A B u = CondX t' A B u := by subst e; rfl
@[go_sem ↓, go_sem] theorem CondX_t : CondX true A B u = A := by simp [CondX]
@[go_sem ↓, go_sem] theorem CondX_f : CondX false A B u = B := by simp [CondX]
@[go_sem ↓, go_sem] theorem CondX_not : CondX (!t) A B u = CondX t B A ⟨⟩ := by cases t <;> simp [CondX]
@[go_sem ↓ 2000, go_sem 2000] theorem condK_x : condK (.bool t) A B = CondX t A B ⟨⟩ := propext Iff.rfl
@[go_sem ↓ 1900, go_sem 1900] theorem guardK_xt : guardK (.bool t) true A B C = CondX t A B ⟨⟩ := propext Iff.rfl
@[go_sem ↓ 1900, go_sem 1900] theorem guardK_xf : guardK (.bool t) false A B C = CondX t B A ⟨⟩ := by
  cases t <;> simp [guardK, CondX]
theorem CondX.bool (ha : t = true → A) (hb : t = false → B) : CondX t A B u := ⟨ha, hb⟩
theorem CondX.dec {p : Prop} [Decidable p] (ha : p → A) (hb : ¬p → B) : CondX (decide p) A B u := ⟨fun h => ha (of_decide_eq_true h), fun h => hb (of_decide_eq_false h)⟩
theorem CondX.beq {α : Type} [BEq α] [LawfulBEq α] {a b : α} (ha : a = b → A) (hb : a ≠ b → B) : CondX (a == b) A B u := ⟨fun h => ha (by simpa using h), fun h => hb (by simpa using h)⟩
theorem CondX.bne {α : Type} [BEq α] [LawfulBEq α] {a b : α} (ha : a ≠ b → A) (hb : a = b → B) : CondX (a != b) A B u := ⟨fun h => ha (by simpa using h), fun h => hb (by simpa using h)⟩
end
theorem CallX.id {P : Program} {f : FuncId} {args : List AV} {h : Hp} {K : AV → Hp → Prop} {u : Tok K} (hc : CallX P f args h K u) : CallX P f args h K u := hc
theorem alloc_set {h : Hp} {f s : Nat} {c c' : Con} (hc : c.keep c' = c') : (h.alloc f s c).set ⟨f, s, h.cnt f s⟩ c' = h.alloc f s c' := by
  unfold Hp.set Hp.alloc
  congr 1
  funext M
  by_cases hM : M = ⟨f, s, h.cnt f s⟩
  · simp [hM, hc]
  · simp [hM]
@[go_sem] theorem alloc_set_blk {h : Hp} {f s : Nat} {cs : List AV} {c' : Con} : (h.alloc f s (.blk cs)).set ⟨f, s, h.cnt f s⟩ c' = h.alloc f s c' := alloc_set (by simp [Con.keep])
theorem wrap_in {x : Int} (h : -9223372036854775808 ≤ x ∧ x ≤ 9223372036854775807) : IntKind.i64.wrap x = x := IntWalk.i64_in x h
@[go_sem] theorem toNat_succ {i : Nat} : ((i : Int) + 1).toNat = i + 1 := by omega
@[go_sem] theorem toNat_pred {i : Nat} : ((i : Int) - 1).toNat = i - 1 := by omega
@[go_sem] theorem toNat_z : Int.toNat 0 = 0 := by omega
/-- A loop with a measure beside the state. -/
theorem awp_fuel {P : Program} {fid : Nat} {T : Nat → List Tg} {c : Code} {Q : Ex → St → Prop} {st : St} (I : Nat → St → Prop) (n : Nat) (h0 : I n st)
    (step : ∀ k s, I k s → awp P fid T c (thenQ (fun s' => ∃ k', k' < k ∧ I k' s') Q) s) : awp P fid T (.loop c) Q st := by
  classical
  simp only [awp]
  have key : ∀ s, (∃ k, I k s) → ∃ k, I k s ∧ ∀ m, I m s → k ≤ m := by
    intro s ⟨k, hk⟩
    induction k using Nat.strongRecOn with
    | _ k ih =>
      by_cases hm : ∃ m, m < k ∧ I m s
      · obtain ⟨m, h1, h2⟩ := hm; exact ih m h1 h2
      · exact ⟨k, hk, fun m h => Nat.le_of_not_lt fun hl => hm ⟨m, hl, h⟩⟩
  refine ⟨fun s => ∃ k, I k s, fun s => if h : ∃ k, I k s then Classical.choose (key s h) else 0, ⟨n, h0⟩, fun s hs => ?_⟩
  have hc := Classical.choose_spec (key s hs)
  refine awp_mono (step _ s hc.1) fun x s' hq => ?_
  cases x with
  | normal =>
    obtain ⟨k', h1, h2⟩ := hq
    have he : ∃ k, I k s' := ⟨k', h2⟩
    refine ⟨he, ?_⟩
    simp only [dif_pos he, dif_pos hs]
    have := (Classical.choose_spec (key s' he)).2 k' h2
    omega
  | exit id => exact hq
  | ret => exact hq
@[go_sem] theorem isEmpty_nil {α : Type} : ((#[] : Array α).isEmpty = true) = True := by simp
theorem exI {p : Prop} {q : p → Prop} (h : p) (hq : q h) : ∃ h, q h := ⟨h, hq⟩
theorem PureX.id {P : Program} {f : FuncId} {args : List AV} {K : AV → Prop} {u : Tok K} (hc : PureX P f args K u) : PureX P f args K u := hc
theorem awp_assoc {P : Program} {fid : Nat} {T : Nat → List Tg} {a b c : Code} {Q : Ex → St → Prop} {st : St} : awp P fid T (.seq a (.seq b c)) Q st = awp P fid T (.seq (.seq a b) c) Q st := by
  simp only [awp]
  have : (thenQ (fun s => awp P fid T b (thenQ (fun s => awp P fid T c Q s) Q) s) Q) = thenQ (awp P fid T b (thenQ (awp P fid T c Q) Q)) (thenQ (awp P fid T c Q) Q) := by
    funext x s
    cases x <;> rfl
  rw [← this]
theorem drop_cons {α : Type} {l : List α} {i : Nat} (h : i < l.length) : l.drop i = l[i] :: l.drop (i + 1) := List.drop_eq_getElem_cons h
/-- A loop that counts up in a variable. -/
theorem awp_for {P : Program} {fid : Nat} {T : Nat → List Tg} {c : Code} {Q : Ex → St → Prop} {st : St} (ti n : Nat) (hb : n ≤ 9223372036854775807) (J : Nat → St → Prop)
    (h0 : st.slots ti = .int .i64 0) (hJ : J 0 st)
    (step : ∀ (i : Nat) (s : St), i < n → decide ((i : Int) < n) = true → IntKind.i64.wrap ((i : Int) + 1) = ((i + 1 : Nat) : Int) → s.slots ti = .int .i64 i → J i s →
      awp P fid T c (thenQ (fun s' => s'.slots ti = .int .i64 ((i + 1 : Nat) : Int) ∧ J (i + 1) s') Q) s)
    (last : ∀ s : St, decide ((n : Int) < n) = false → s.slots ti = .int .i64 n → J n s → awp P fid T c (thenQ (fun _ => False) Q) s) :
    awp P fid T (.loop c) Q st := by
  refine awp_fuel (fun k s => ∃ i : Nat, i + k = n ∧ s.slots ti = .int .i64 i ∧ J i s) n ⟨0, by omega, by simpa using h0, hJ⟩ ?_
  rintro k s ⟨i, hk, g0, gJ⟩
  by_cases hlt : i < n
  · refine awp_mono (step i s hlt (by simpa using hlt) (by rw [IntWalk.i64_in _ (by omega)]; simp) g0 gJ) fun x s' hs => ?_
    cases x with
    | normal => exact ⟨k - 1, by omega, i + 1, by omega, hs.1, hs.2⟩
    | exit id => exact hs
    | ret => exact hs
  · have : i = n := by omega
    subst this
    refine awp_mono (last s (by simp) g0 gJ) fun x s' hs => ?_
    cases x with
    | normal => exact hs.elim
    | exit id => exact hs
    | ret => exact hs
theorem awp_go {P : Program} {fid : Nat} {T : Nat → List Tg} {a b : Code} {Q : Ex → St → Prop} {st : St} (h : ∃ s', awp P fid T a (thenQ (fun t => t = s') Q) st ∧ awp P fid T b Q s') : awp P fid T (.seq a b) Q st := by
  obtain ⟨s', h1, h2⟩ := h
  exact awp_cut _ h1 (fun s hs => hs ▸ h2)
end Go.T
/- Lists that a function gathers: a nil slice first, then an own one. -/
namespace Go.T
open Go
set_option linter.unusedSimpArgs false
/-- What was gathered: v stands for it; its place was not there in h. -/
inductive Acc (h H : Hp) (sz : Nat) : AV → List AV → Prop
  | nil : Acc h H sz (.l true 0 []) []
  | own (L : Lab) (xs : List AV) : H.con L = .arr sz xs → h.con L = .none → Acc h H sz (.os L) xs
theorem Acc.app {h H : Hp} {f s sz bytes : Nat} {v : AV} {xs ys : List AV} {K : AV → Hp → Prop} (a : Acc h H sz v xs) (kp : Keeps h H) (hb : (xs.length + ys.length) * bytes ≤ 2 ^ 47) (hl : xs.length + ys.length < 2 ^ 62) (h0 : 0 < bytes)
    (hk : ∀ H' v', Acc h H' sz v' (xs ++ ys) → Keeps h H' → (∀ M, H.con M ≠ .none → (∀ L, v = .os L → M ≠ L) → H'.con M = H.con M) → (∀ M cs, H.con M = .blk cs → H'.con M = .blk cs) → v' = .os ⟨f, s, H.cnt f s⟩ → K v' H') : appendX H f s sz bytes v ys K := by
  have hn : H.con ⟨f, s, H.cnt f s⟩ = .none := H.ok _ (by simp)
  cases a with
  | nil =>
    simp only [appendX, List.length_nil, Nat.zero_add, List.nil_append, Hp.fresh] at *
    refine ⟨hb, hl, h0, hk _ _ (.own _ _ (by simp [Hp.alloc]) (kp.new f s)) (kp.alloc _ _ _) (fun M hM _ => ?_) (fun M cs hM => ?_) rfl⟩
    · have : M ≠ ⟨f, s, H.cnt f s⟩ := fun hE => hM (hE ▸ hn)
      simp [Hp.alloc, this]
    · have : M ≠ ⟨f, s, H.cnt f s⟩ := fun hE => by rw [hE, hn] at hM; cases hM
      simp [Hp.alloc, this, hM]
  | own L xs hc hL =>
    simp only [appendX, hc, appendC, Hp.fresh]
    refine ⟨trivial, hb, hl, h0, hk _ _ (.own _ _ (by simp [Hp.alloc, Hp.set]) (kp.new f s)) ((kp.set hL _).alloc _ _ _) (fun M hM hE => ?_) (fun M cs hM => ?_) (by simp [Hp.set])⟩
    · have h1 : M ≠ ⟨f, s, H.cnt f s⟩ := fun hE => hM (hE ▸ hn)
      have h2 : M ≠ L := hE L rfl
      simp [Hp.alloc, Hp.set, h1, h2]
    · have h1 : M ≠ ⟨f, s, H.cnt f s⟩ := fun hE => by rw [hE, hn] at hM; cases hM
      have h2 : M ≠ L := fun hE => by rw [hE, hc] at hM; cases hM
      simp [Hp.alloc, Hp.set, h1, h2, hM]
theorem Acc.mono {h H H' : Hp} {sz : Nat} {v : AV} {xs : List AV} (a : Acc h H sz v xs) (hm : ∀ L, v = .os L → H'.con L = H.con L) : Acc h H' sz v xs := by
  cases a with
  | nil => exact .nil
  | own L xs hc hL => exact .own L xs (by rw [hm L rfl, hc]) hL
theorem Acc.alloc {h H : Hp} {sz : Nat} {v : AV} {xs : List AV} (a : Acc h H sz v xs) (f s : Nat) (c : Con) : Acc h (H.alloc f s c) sz v xs := by
  refine a.mono fun L hL => ?_
  subst hL
  cases a with
  | own L xs hc hL =>
    have : L ≠ ⟨f, s, H.cnt f s⟩ := fun hE => by rw [hE, H.ok _ (by simp)] at hc; cases hc
    simp [Hp.alloc, this]
theorem frz_lf (L : Lab) (c : Con) : ∀ v : AV, v.lf = true → v.frz L c = v := by
  intro v
  apply AV.rec (motive_1 := fun v => v.lf = true → v.frz L c = v) (motive_2 := fun vs => AV.lfs vs = true → AV.frzs L c vs = vs)
  all_goals (intros; simp_all [AV.lf, AV.lfs, AV.frz, AV.frzs])
theorem Acc.frzK {h H : Hp} {sz : Nat} {v : AV} {xs : List AV} (mk : AV → AV) (a : Acc h H sz v xs) (kp : Keeps h H) (hmk : ∀ L c v, (mk v).frz L c = mk (v.frz L c)) (hle : ∀ v w, Le v w → Le (mk v) (mk w)) :
    ∃ H', Frz H (mk v) H' (mk (.l false sz xs)) ∧ Keeps h H' := by
  cases a with
  | nil => exact ⟨H, .done _ _ _ (hle _ _ Le.l0), kp⟩
  | own L xs hc hL =>
    refine ⟨H.set L .none, .step _ L _ _ _ (.done _ _ _ ?_), kp.set hL _⟩
    rw [hmk, hc]
    exact hle _ _ (by simp only [AV.frz, if_true]; exact Le.refl _)
theorem Acc.frz {h H : Hp} {sz : Nat} {v : AV} {xs : List AV} (a : Acc h H sz v xs) (kp : Keeps h H) : ∃ H', Frz H v H' (.l false sz xs) ∧ Keeps h H' :=
  Acc.frzK id a kp (fun _ _ _ => rfl) (fun _ _ hl => hl)
theorem Acc.elems {h H : Hp} {sz : Nat} {v : AV} {xs : List AV} (a : Acc h H sz v xs) : ∃ sz', elemsOf H v = some (sz', xs) ∧ (xs ≠ [] → sz' = sz) := by
  cases a with
  | nil => exact ⟨0, rfl, fun h => absurd rfl h⟩
  | own L xs hc hL => exact ⟨sz, by simp only [elemsOf, hc, elemsC], fun _ => rfl⟩
theorem Acc.len {h H : Hp} {sz : Nat} {v : AV} {xs : List AV} {K : AV → Prop} (a : Acc h H sz v xs) (hk : K (.int .i64 xs.length)) : lenK H v K := by
  cases a with
  | nil => simpa [lenK] using hk
  | own L xs hc hL => simpa [lenK, hc, lenC] using hk
end Go.T
/- Ranges over functions: what an iterator does, aas a list; a loop over it. -/
namespace Go.T
open Go
/-- What the functions of F made stays. -/
def KeepsF (F : List Nat) (h H : Hp) : Prop := ∀ M, M.f ∈ F → h.con M ≠ .none → H.con M = h.con M
theorem KeepsF.refl (F : List Nat) (h : Hp) : KeepsF F h h := fun _ _ _ => rfl
theorem KeepsF.alloc {F : List Nat} {h H : Hp} (k : KeepsF F h H) (f s : Nat) (c : Con) : KeepsF F h (H.alloc f s c) := by
  intro M hM hn
  have h1 := k M hM hn
  have : M ≠ ⟨f, s, H.cnt f s⟩ := fun hE => hn (by rw [← h1, hE]; exact H.ok _ (by simp))
  simp [Hp.alloc, this, h1]
theorem KeepsF.set {F : List Nat} {h H : Hp} (k : KeepsF F h H) {L : Lab} (hL : L.f ∉ F) (c : Con) : KeepsF F h (H.set L c) := by
  intro M hM hn
  have : M ≠ L := fun hE => hL (hE ▸ hM)
  simp [Hp.set, this, k M hM hn]
theorem KeepsF.trans {F : List Nat} {h H H' : Hp} (k : KeepsF F h H) (k' : KeepsF F H H') : KeepsF F h H' := by
  intro M hM hn
  have h1 := k M hM hn
  rw [k' M hM (by rw [h1]; exact hn), h1]
theorem KeepsF.keeps {F : List Nat} {h H : Hp} (k : Keeps h H) : KeepsF F h H := fun M _ hn => (k M).resolve_left hn
/-- Heaps that differ only where functions of F made something new, and in new marks of ranges. -/
def SameF (F : List Nat) (h g g' : Hp) : Prop := ∀ M, (h.con M ≠ .none ∨ (M.f ∉ F ∧ M.s ≠ lpSlot)) → g'.con M = g.con M
theorem SameF.keeps {F : List Nat} {h0 h g g' : Hp} (s : SameF F h g g') (kh : Keeps h0 h) (k : Keeps h0 g) : Keeps h0 g' := by
  intro M
  rcases kh M with h1 | h1
  · exact .inl h1
  · by_cases hn : h0.con M = .none
    · exact .inl hn
    · rw [s M (.inl (by rw [h1]; exact hn))]
      exact k M
theorem SameF.acc {F : List Nat} {h0 h g g' : Hp} {sz : Nat} {v : AV} {xs : List AV} (s : SameF F h g g') (a : Acc h0 g sz v xs) (hv : ∀ L, v = .os L → L.f ∉ F ∧ L.s ≠ lpSlot) : Acc h0 g' sz v xs :=
  a.mono fun L hL => s L (.inr (hv L hL))
/-- An iterator: it goes over xs, each given to the range's body; of the heap it touches only what functions of F make. -/
def IterF (P : Program) (gf : FuncId) (caps : List AV) (F : List Nat) (xs : List (List AV)) : Prop :=
  ∀ (L : Lab) (h : Hp) (K : AV → Hp → Prop) (I : Nat → Hp → Prop) (D : Hp → Prop),
    (∀ i g g', I i g → SameF F h g g' → g'.con L = g.con L → I i g') → (∀ g g', D g → SameF F h g g' → g'.con L = g.con L → D g') → L.f ∉ F → I 0 h →
    (∀ i (hi : i < xs.length) g, I i g → YieldK P L xs[i] g (fun r g' => KeepsF F g g' ∧ ((r = .bool true ∧ I (i + 1) g') ∨ (r = .bool false ∧ D g')))) →
    (∀ g, I xs.length g → K (.tup []) g) → (∀ g, D g → K (.tup []) g) → CallK P gf (.yl L :: caps) h K
section
variable {P : Program} {fid : Nat} {T : Nat → List Tg} {gf : FuncId} {caps : List AV} {F : List Nat} {xs : List (List AV)} {ps : List Nat} {asg bd : Code} {Q : Ex → St → Prop} {sl : Nat → AV} {hp : Hp} {n : Nat}
theorem iter_rule (hm : P.follows .mixedOrders = true) (it : IterF P gf caps F xs) (hF : fid ∉ F) (hn : ntm P fid = n) (hps : ∀ p ∈ ps, p < n) (hok1 : okCode n T asg = true) (hok2 : okCode n T bd = true) (hlen : ∀ x ∈ xs, x.length = ps.length)
    (J : Nat → Hp → Prop) (D : Ex → Hp → Prop)
    (stab : ∀ i g g', J i g → SameF F hp g g' → J i g') (stabD : ∀ x g g', D x g → SameF F hp g g' → D x g') (h0 : J 0 hp)
    (step : ∀ i (hi : i < xs.length) g, J i g → awp P fid T asg (asgQ (awp P fid T bd (fun x s => KeepsF F g s.hp ∧ match x with | .normal => J (i + 1) s.hp | x => D x s.hp))) (putS ps xs[i] ⟨sl, g⟩))
    (fin : ∀ g, J xs.length g → Q .normal ⟨sl, g⟩) (brk : ∀ x g, x ≠ .normal → D x g → Q x ⟨sl, g⟩) (u : Tok (fun (_ : AV) (h : Hp) => endLpC (h.con ⟨fid, lpSlot, hp.cnt fid lpSlot⟩) (fun x => Q x ⟨sl, h.set ⟨fid, lpSlot, hp.cnt fid lpSlot⟩ .none⟩))) :
    CallX P gf (.yl ⟨fid, lpSlot, hp.cnt fid lpSlot⟩ :: caps) (hp.alloc fid lpSlot (.lp sl n ps asg bd .ready)) (fun _ h => endLpC (h.con ⟨fid, lpSlot, hp.cnt fid lpSlot⟩) (fun x => Q x ⟨sl, h.set ⟨fid, lpSlot, hp.cnt fid lpSlot⟩ .none⟩)) u := by
  obtain ⟨L, hL⟩ : ∃ L : Lab, (⟨fid, lpSlot, hp.cnt fid lpSlot⟩ : Lab) = L := ⟨_, rfl⟩
  revert u
  rw [hL]
  intro u
  have Lf : L.f = fid := by rw [← hL]
  have Ls : L.s = lpSlot := by rw [← hL]
  have Ln : hp.con L = .none := by rw [← hL]; exact hp.ok _ (by simp)
  have neL : ∀ M, (hp.con M ≠ .none ∨ (M.f ∉ F ∧ M.s ≠ lpSlot)) → M ≠ L := fun M hM hE => by
    subst hE
    rcases hM with h1 | h1
    · exact h1 Ln
    · exact h1.2 Ls
  have setS : ∀ (g : Hp) (c : Con), SameF F hp g (g.set L c) := fun g c M hM => by
    have := neL M hM
    simp [Hp.set, this]
  have alS : ∀ (c : Con), SameF F hp hp (hp.alloc fid lpSlot c) := fun c M hM => by
    have h1 := neL M hM
    rw [← hL] at h1
    simp [Hp.alloc, h1]
  have conL : ∀ c, (hp.alloc fid lpSlot c).con L = c := fun c => by rw [← hL]; simp [Hp.alloc]
  have sub : ∀ g g', SameF F (hp.alloc fid lpSlot (.lp sl n ps asg bd .ready)) g g' → SameF F hp g g' := fun g g' s M hh => s M (hh.imp (fun h1 h2 => h1 (by
    rw [← h2]; exact (alS _ M (.inl h1)).symm)) id)
  refine CallX.of (it L _ _ (fun i g => g.con L = .lp sl n ps asg bd .ready ∧ J i (g.set L .none)) (fun g => ∃ x, x ≠ .normal ∧ g.con L = .lp sl n ps asg bd (.done x) ∧ D x (g.set L .none)) ?_ ?_ (by rw [Lf]; exact hF) ?_ ?_ ?_ ?_)
  · rintro i g g' ⟨q1, q2⟩ hs hl
    exact ⟨by rw [hl, q1], stab i _ _ q2 fun M hh => by rw [setS g' .none M hh, setS g .none M hh]; exact sub _ _ hs M hh⟩
  · rintro g g' ⟨x, q0, q1, q2⟩ hs hl
    exact ⟨x, q0, by rw [hl, q1], stabD x _ _ q2 fun M hh => by rw [setS g' .none M hh, setS g .none M hh]; exact sub _ _ hs M hh⟩
  · exact ⟨conL _, stab 0 _ _ h0 fun M hh => by rw [setS _ .none M hh]; exact alS _ M hh⟩
  · rintro i hi g ⟨q1, q2⟩
    have hk := lt_of_con q1 (by simp)
    refine YieldK.of_awpC hm fid T q1 hn hps hok1 hok2 (hlen _ (List.getElem_mem hi)) (awp_mono (step i hi _ q2) fun x s hs => ?_)
    cases x with
    | exit id => exact hs.elim
    | ret => exact hs.elim
    | normal =>
      refine awp_mono hs fun x s ⟨hs1, hs2⟩ hc => ?_
      have hkc : L.k < s.hp.cnt L.f L.s := Nat.lt_of_lt_of_le hk (hc _ _)
      have kf : ∀ c, KeepsF F g (s.hp.back L c) := fun c M hM hn => by
        have : M ≠ L := fun hE => hF (by rw [← Lf, ← hE]; exact hM)
        rw [back_con hkc, if_neg this]
        have h2 : (g.set L .none).con M = g.con M := by simp [Hp.set, this]
        rw [← h2] at hn ⊢
        exact hs1 M hM hn
      have bS : ∀ c, SameF F hp s.hp ((s.hp.back L c).set L .none) := fun c M hM => by
        have := neL M hM
        simp [Hp.set, this, back_con hkc]
      have bL : ∀ c, (s.hp.back L c).con L = c := fun c => by rw [back_con hkc, if_pos rfl]
      cases x with
      | normal => exact ⟨kf _, .inl ⟨rfl, bL _, stab _ _ _ hs2 (bS _)⟩⟩
      | exit id => exact ⟨kf _, .inr ⟨rfl, _, by simp, bL _, stabD _ _ _ hs2 (bS _)⟩⟩
      | ret => exact ⟨kf _, .inr ⟨rfl, _, by simp, bL _, stabD _ _ _ hs2 (bS _)⟩⟩
  · rintro g ⟨q1, q2⟩
    rw [q1]
    exact fin _ q2
  · rintro g ⟨x, q0, q1, q2⟩
    rw [q1]
    cases x with
    | normal => exact absurd rfl q0
    | exit id => exact brk _ _ q0 q2
    | ret => exact brk _ _ q0 q2
end
/-- What an iterator has made since g: nothing that was there when it began is touched. -/
structure OwnF (F : List Nat) (h : Hp) (L : Lab) (g g' : Hp) : Prop where
  same : SameF F h g g'
  kf : KeepsF F h g'
  con : g'.con L = g.con L
theorem OwnF.refl {F : List Nat} {h g : Hp} {L : Lab} (k : KeepsF F h g) : OwnF F h L g g := ⟨fun _ _ => rfl, k, rfl⟩
theorem KeepsF.fresh {F : List Nat} {h g : Hp} (k : KeepsF F h g) {f : Nat} (hf : f ∈ F) (s : Nat) : h.con ⟨f, s, g.cnt f s⟩ = .none := by
  by_cases hn : h.con ⟨f, s, g.cnt f s⟩ = .none
  · exact hn
  · exact (k ⟨f, s, g.cnt f s⟩ hf hn).symm.trans (g.ok _ (by simp))
theorem OwnF.set {F : List Nat} {h g g' : Hp} {L : Lab} (o : OwnF F h L g g') (hL : L.f ∉ F) {M : Lab} (hM : M.f ∈ F) (hn : h.con M = .none) (c : Con) : OwnF F h L g (g'.set M c) := by
  refine ⟨fun N hN => ?_, fun N hN hne => ?_, ?_⟩
  · have : N ≠ M := by
      rintro rfl
      rcases hN with h1 | h1
      · exact h1 hn
      · exact h1.1 hM
    simp [Hp.set, this, o.same N hN]
  · have : N ≠ M := by rintro rfl; exact hne hn
    simp [Hp.set, this, o.kf N hN hne]
  · have : L ≠ M := by rintro rfl; exact hL hM
    simp [Hp.set, this, o.con]
theorem OwnF.alloc {F : List Nat} {h g g' : Hp} {L : Lab} (o : OwnF F h L g g') (hL : L.f ∉ F) {f : Nat} (hf : f ∈ F) (s : Nat) (c : Con) : OwnF F h L g (g'.alloc f s c) := by
  have hn := o.kf.fresh hf s
  refine ⟨fun N hN => ?_, fun N hN hne => ?_, ?_⟩
  · have : N ≠ ⟨f, s, g'.cnt f s⟩ := by
      rintro rfl
      rcases hN with h1 | h1
      · exact h1 hn
      · exact h1.1 hf
    simp [Hp.alloc, this, o.same N hN]
  · have : N ≠ ⟨f, s, g'.cnt f s⟩ := by rintro rfl; exact hne hn
    simp [Hp.alloc, this, o.kf N hN hne]
  · have : L ≠ ⟨f, s, g'.cnt f s⟩ := by rintro rfl; exact hL hf
    simp [Hp.alloc, this, o.con]
theorem drop_at {α : Type} {l r : List α} {k : Nat} {x : α} (h : l.drop k = x :: r) : ∃ hk : k < l.length, l[k] = x ∧ l.drop (k + 1) = r := by
  have hk : k < l.length := by
    rcases Nat.lt_or_ge k l.length with h1 | h1
    · exact h1
    · rw [List.drop_eq_nil_of_le h1] at h; cases h
  rw [List.drop_eq_getElem_cons hk] at h
  exact ⟨hk, (List.cons.inj h).1, (List.cons.inj h).2⟩
theorem drop_end {α : Type} {l : List α} {k : Nat} (h : l.drop k = []) (hk : k ≤ l.length) : k = l.length := by
  have := congrArg List.length h
  simp at this; omega
theorem yield_step {P : Program} {L : Lab} {F : List Nat} {xs r : List (List AV)} {k : Nat} {args : List AV} {H : Hp} {K : AV → Hp → Prop} {u : Tok K} {I : Nat → Hp → Prop} {D : Hp → Prop}
    (hY : ∀ i (hi : i < xs.length) g, I i g → YieldK P L xs[i] g (fun r g' => KeepsF F g g' ∧ ((r = .bool true ∧ I (i + 1) g') ∨ (r = .bool false ∧ D g')))) (hd : xs.drop k = args :: r) (hI : I k H)
    (h1 : ∀ g2, KeepsF F H g2 → I (k + 1) g2 → xs.drop (k + 1) = r → k + 1 ≤ xs.length → K (.bool true) g2) (h2 : ∀ g2, KeepsF F H g2 → D g2 → K (.bool false) g2) : YieldX P L args H K u := by
  obtain ⟨hk, h3, h4⟩ := drop_at hd
  have hy := hY k hk H hI
  rw [h3] at hy
  refine YieldX.of (hy.mono ?_)
  rintro v g2 ⟨kf, ⟨rfl, hi⟩ | ⟨rfl, hdn⟩⟩
  · exact h1 g2 kf hi h4 hk
  · exact h2 g2 kf hdn
@[go_sem] theorem alloc_set_cnt {h : Hp} {f s n : Nat} {cs : List AV} {c' : Con} (hn : h.cnt f s = n) : (h.alloc f s (.blk cs)).set ⟨f, s, n⟩ c' = h.alloc f s c' := by
  subst hn; exact alloc_set_blk
theorem KeepsF.app {F : List Nat} {q H H' : Hp} {v : AV} (k : KeepsF F q H) (fr : ∀ M, H.con M ≠ .none → (∀ L, v = .os L → M ≠ L) → H'.con M = H.con M) (hv : ∀ L, v = .os L → L.f ∉ F) : KeepsF F q H' := by
  intro M hM hn
  have h1 := k M hM hn
  rw [fr M (by rw [h1]; exact hn) (fun L hL e => hv L hL (e ▸ hM)), h1]
end Go.T
/- slices.Grow of the nil slice, by the library's contract. -/
namespace Go.T
open Go Go.Proofs Go.Shelf
set_option linter.unusedSimpArgs false
set_option linter.unusedVariables false
theorem Ext.drew {w : World} {B : Nat → Prop} {e : Env} {h : Hp} : Ext w B e h w.drew B e h where
  size := Nat.le_refl _
  os := rfl
  tape := rfl
  output := rfl
  bsub _ h := h
  bnew _ h := .inl h
  keep b hb _ := rfl
  onew L hL := .inl ⟨L, hL, rfl⟩
  cnt _ _ := Nat.le_refl _
  env _ _ := ⟨rfl, rfl⟩
  live _ _ h := h
theorem HRel.drew {w : World} {B : Nat → Prop} {e : Env} {h : Hp} (hh : HRel w B e h) : HRel w.drew B e h := hh.free (Nat.le_refl _) fun b hb => rfl
theorem CallK.growNil {P : Program} {ρ : Ren} (Ly : Lays8.n4 P ρ) {f : FuncId} (hf : ρ.f 4 = f) (i0 : TypeInfo) (z : Value) (hi0 : P.info? (ρ.t 25) = some i0) (hz0 : i0.zero = some z) (hs0 : 0 < i0.size) (hzs : z.cells.size = i0.size)
    (fid s sz : Nat) (ex : Nat) (n : Nat) (hb : n * i0.bytes ≤ 2 ^ 47) (hn : n < 2 ^ 62) (hsz : sz = i0.size) (h : Hp) (K : AV → Hp → Prop)
    (hK0 : n = 0 → K (.l true ex []) h) (hK1 : 0 < n → K (.os (h.fresh fid s)) (h.alloc fid s (.arr sz []))) : CallK P f [.l true ex [], .int .i64 n] h K := by
  subst hf
  intro w B e vs hh hs hR
  have r0 := hR 0 (by simp)
  have r1 := hR 1 (by simp)
  simp only [List.getD_cons_zero, List.getD_cons_succ] at r0 r1
  have e1 := R_int r1
  obtain ⟨a, e0⟩ : ∃ a, vs.getD 0 undef = .slice a 0 0 := by
    generalize vs.getD 0 undef = v at r0
    cases r0 with
    | l0 _ _ a c hx => exact ⟨a, by rw [hx rfl]⟩
    | l _ _ _ b off cap vs h1 => exact absurd rfl h1
    | ref _ _ hr => exact hr.elim
  have hvs : vs = #[.slice a 0 0, .int .i64 n] := by
    apply Array.ext
    · simpa using hs
    · intro i h1 h2
      have : i = 0 ∨ i = 1 := by simp at h2; omega
      rcases this with rfl | rfl
      · rw [Array.getD_eq_getD_getElem?, Array.getElem?_eq_getElem h1] at e0; simpa using e0
      · rw [Array.getD_eq_getD_getElem?, Array.getElem?_eq_getElem h1] at e1; simpa using e1
  subst hvs
  rcases Nat.eq_zero_or_pos n with h0 | h0
  · refine (Any8.slices_Grow_room Ly a 0 0 n w (by omega) (by omega) (by omega) (by omega)).mono ?_
    rintro en w' ⟨rfl, rfl⟩
    exact ⟨_, _, _, B, e, rfl, hh, Ext.refl _ _ _ _, r0, hK0 h0⟩
  · refine (Any8.slices_Grow_grow Ly i0 z hi0 hz0 hs0 a 0 0 n [] w (by omega) (by omega) (by rw [Nat.zero_add]; omega) (by omega) (by simp) (fun _ => rfl) (fun _ _ j v hj => by simp at hj)).mono ?_
    rintro en w' ⟨rfl, rfl⟩
    have hc := grownCap_ge w (0 + n) 0 (ρ.t 25)
    obtain ⟨e', p1, p2, p3⟩ := newArr (w := w.drew) (hh.drew) fid s sz [] [] (fun _ _ => undef) (fun _ _ => undef) (Builtin.zeroCells z.cells (0 + n - 0) ++ Builtin.zeroCells z.cells (grownCap w (0 + n) 0 (ρ.t 25) - (0 + n))) (ρ.t 25) (grownCap w (0 + n) 0 (ρ.t 25))
      (fun i hi => by simp at hi) (fun i hi => by simp at hi) (fun i j hi => by simp at hi) (fun i j hi => by simp at hi) (fun i j hi => by simp at hi) (fun i j hi => by simp at hi) (by simp)
      (by rw [Array.size_append, size_zeroCells, size_zeroCells, hzs, hsz, ← Nat.add_mul]; congr 1; simp only [List.length_nil]; omega)
    have hq : ([] : List Value).toArray ++ Builtin.zeroCells z.cells (0 + n - 0) ++ Builtin.zeroCells z.cells (grownCap w (0 + n) 0 (ρ.t 25) - (0 + n)) = (flatRow sz ([] : List AV).length (fun _ _ => undef) ++ flatRow sz ([] : List AV).length (fun _ _ => undef)).toArray ++ (Builtin.zeroCells z.cells (0 + n - 0) ++ Builtin.zeroCells z.cells (grownCap w (0 + n) 0 (ρ.t 25) - (0 + n))) := by
      simp [flatRow]
    rw [hq]
    exact ⟨_, .os (h.fresh fid s), _, B, e', rfl, p1, Ext.drew.trans p2, .ref _ _ (by simpa using p3), hK1 h0⟩
end Go.T
