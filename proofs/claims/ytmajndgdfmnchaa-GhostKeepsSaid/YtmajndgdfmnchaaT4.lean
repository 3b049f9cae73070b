/- Part of a proof: a small logic of programs over plain values, shown sound for the given machine. -/
import Derived.Test.YtmajndgdfmnchaaT3
/- Conditions kept from simp: the ways behind a condition are walked one by one. -/
namespace Go.T
open Go
def CondX (t : Bool) (A B : Prop) (_ : Tok (A, B)) : Prop := (t = true → A) ∧ (t = false → B)
section
variable {A B C : Prop} {t : Bool} {u : Tok (A, B)}
@[congr] theorem CondX_congr {t' : Bool} (e : t = t') : CondX t A B u = CondX t' A B u := by subst e; rfl
@[go_sem ↓, go_sem] theorem CondX_t : CondX true A B u = A := by simp [CondX]
@[go_sem ↓, go_sem] theorem CondX_not : CondX (!t) A B u = CondX t B A ⟨⟩ := by cases t <;> simp [CondX]
@[go_sem ↓ 2000, go_sem 2000] theorem condK_x : condK (.bool t) A B = CondX t A B ⟨⟩ := propext Iff.rfl
@[go_sem ↓ 1900, go_sem 1900] theorem guardK_xt : guardK (.bool t) true A B C = CondX t A B ⟨⟩ := propext Iff.rfl
@[go_sem ↓ 1900, go_sem 1900] theorem guardK_xf : guardK (.bool t) false A B C = CondX t B A ⟨⟩ := by
  cases t <;> simp [guardK, CondX]
theorem CondX.bool (ha : t = true → A) (hb : t = false → B) : CondX t A B u := ⟨ha, hb⟩
theorem CondX.dec {p : Prop} [Decidable p] (ha : p → A) (hb : ¬p → B) : CondX (decide p) A B u := ⟨fun h => ha (of_decide_eq_true h), fun h => hb (of_decide_eq_false h)⟩
theorem CondX.beq {α : Type} [BEq α] [LawfulBEq α] {a b : α} (ha : a = b → A) (hb : a ≠ b → B) : CondX (a == b) A B u := ⟨fun h => ha (by simpa using h), fun h => hb (by simpa using h)⟩
theorem CondX.bne {α : Type} [BEq α] [LawfulBEq α] {a b : α} (ha : a ≠ b → A) (hb : a = b → B) : CondX (a != b) A B u := ⟨fun h => ha (by simpa using h), fun h => hb (by simpa using h)⟩
end
theorem CallX.id {P : Program} {f : FuncId} {args : List AV} {h : Hp} {K : AV → Hp → Prop} {u : Tok K} (hc : CallX P f args h K u) : CallX P f args h K u := hc
theorem alloc_set {h : Hp} {f s : Nat} {c c' : Con} (hc : c.keep c' = c') : (h.alloc f s c).set ⟨f, s, h.cnt f s⟩ c' = h.alloc f s c' := by
  unfold Hp.set Hp.alloc
  congr 1
  funext M
  by_cases hM : M = ⟨f, s, h.cnt f s⟩
  · simp [hM, hc]
  · simp [hM]
@[go_sem] theorem alloc_set_blk {h : Hp} {f s : Nat} {cs : List AV} {c' : Con} : (h.alloc f s (.blk cs)).set ⟨f, s, h.cnt f s⟩ c' = h.alloc f s c' := alloc_set (by simp [Con.keep])
@[go_sem] theorem alloc_set_arr {h : Hp} {f s n : Nat} {cs : List AV} {c' : Con} : (h.alloc f s (.arr n cs)).set ⟨f, s, h.cnt f s⟩ c' = h.alloc f s c' := alloc_set (by simp [Con.keep])
theorem wrap_in {x : Int} (h : -9223372036854775808 ≤ x ∧ x ≤ 9223372036854775807) : IntKind.i64.wrap x = x := IntWalk.i64_in x h
@[go_sem] theorem toNat_succ {i : Nat} : ((i : Int) + 1).toNat = i + 1 := by omega
@[go_sem] theorem toNat_pred {i : Nat} : ((i : Int) - 1).toNat = i - 1 := by omega
@[go_sem] theorem isEmpty_nil {α : Type} : ((#[] : Array α).isEmpty = true) = True := by simp
theorem exI {p : Prop} {q : p → Prop} (h : p) (hq : q h) : ∃ h, q h := ⟨h, hq⟩
theorem PureX.id {P : Program} {f : FuncId} {args : List AV} {K : AV → Prop} {u : Tok K} (hc : PureX P f args K u) : PureX P f args K u := hc
theorem awp_assoc {P : Program} {fid : Nat} {T : Nat → List Tg} {a b c : Code} {Q : Ex → St → Prop} {st : St} : awp P fid T (.seq a (.seq b c)) Q st = awp P fid T (.seq (.seq a b) c) Q st := by
  simp only [awp]
  have : (thenQ (fun s => awp P fid T b (thenQ (fun s => awp P fid T c Q s) Q) s) Q) = thenQ (awp P fid T b (thenQ (awp P fid T c Q) Q)) (thenQ (awp P fid T c Q) Q) := by
    funext x s
    cases x <;> rfl
  rw [← this]
end Go.T
/- Lists that a function gathers: a nil slice first, then an own one. -/
namespace Go.T
open Go
set_option linter.unusedSimpArgs false
/-- What was gathered: v stands for it; its place was not there in h. -/
inductive Acc (h H : Hp) (sz : Nat) : AV → List AV → Prop
  | nil : Acc h H sz (.l true 0 []) []
  | own (L : Lab) (xs : List AV) : H.con L = .arr sz xs → h.con L = .none → Acc h H sz (.os L) xs
theorem Acc.mono {h H H' : Hp} {sz : Nat} {v : AV} {xs : List AV} (a : Acc h H sz v xs) (hm : ∀ L, v = .os L → H'.con L = H.con L) : Acc h H' sz v xs := by
  cases a with
  | nil => exact .nil
  | own L xs hc hL => exact .own L xs (by rw [hm L rfl, hc]) hL
theorem Acc.alloc {h H : Hp} {sz : Nat} {v : AV} {xs : List AV} (a : Acc h H sz v xs) (f s : Nat) (c : Con) : Acc h (H.alloc f s c) sz v xs := by
  refine a.mono fun L hL => ?_
  subst hL
  cases a with
  | own L xs hc hL =>
    have : L ≠ ⟨f, s, H.cnt f s⟩ := fun hE => by rw [hE, H.ok _ (by simp)] at hc; cases hc
    simp [Hp.alloc, this]
theorem frz_lf (L : Lab) (c : Con) : ∀ v : AV, v.lf = true → v.frz L c = v := by
  intro v
  apply AV.rec (motive_1 := fun v => v.lf = true → v.frz L c = v) (motive_2 := fun vs => AV.lfs vs = true → AV.frzs L c vs = vs)
  all_goals (intros; simp_all [AV.lf, AV.lfs, AV.frz, AV.frzs])
theorem Acc.frzK {h H : Hp} {sz : Nat} {v : AV} {xs : List AV} (mk : AV → AV) (a : Acc h H sz v xs) (kp : Keeps h H) (hmk : ∀ L c v, (mk v).frz L c = mk (v.frz L c)) (hle : ∀ v w, Le v w → Le (mk v) (mk w)) :
    ∃ H', Frz H (mk v) H' (mk (.l false sz xs)) ∧ Keeps h H' := by
  cases a with
  | nil => exact ⟨H, .done _ _ _ (hle _ _ Le.l0), kp⟩
  | own L xs hc hL =>
    refine ⟨H.set L .none, .step _ L _ _ _ (.done _ _ _ ?_), kp.set hL _⟩
    rw [hmk, hc]
    exact hle _ _ (by simp only [AV.frz, if_true]; exact Le.refl _)
theorem Acc.frz {h H : Hp} {sz : Nat} {v : AV} {xs : List AV} (a : Acc h H sz v xs) (kp : Keeps h H) : ∃ H', Frz H v H' (.l false sz xs) ∧ Keeps h H' :=
  Acc.frzK id a kp (fun _ _ _ => rfl) (fun _ _ hl => hl)
theorem Acc.elems {h H : Hp} {sz : Nat} {v : AV} {xs : List AV} (a : Acc h H sz v xs) : ∃ sz', elemsOf H v = some (sz', xs) ∧ (xs ≠ [] → sz' = sz) := by
  cases a with
  | nil => exact ⟨0, rfl, fun h => absurd rfl h⟩
  | own L xs hc hL => exact ⟨sz, by simp only [elemsOf, hc, elemsC], fun _ => rfl⟩
theorem Acc.len {h H : Hp} {sz : Nat} {v : AV} {xs : List AV} {K : AV → Prop} (a : Acc h H sz v xs) (hk : K (.int .i64 xs.length)) : lenK H v K := by
  cases a with
  | nil => simpa [lenK] using hk
  | own L xs hc hL => simpa [lenK, hc, lenC] using hk
end Go.T
/- Ranges over functions: what an iterator does, aas a list; a loop over it. -/
namespace Go.T
open Go
/-- What the functions of F made stays. -/
def KeepsF (F : List Nat) (h H : Hp) : Prop := ∀ M, M.f ∈ F → h.con M ≠ .none → H.con M = h.con M
theorem KeepsF.refl (F : List Nat) (h : Hp) : KeepsF F h h := fun _ _ _ => rfl
theorem KeepsF.set {F : List Nat} {h H : Hp} (k : KeepsF F h H) {L : Lab} (hL : L.f ∉ F) (c : Con) : KeepsF F h (H.set L c) := by
  intro M hM hn
  have : M ≠ L := fun hE => hL (hE ▸ hM)
  simp [Hp.set, this, k M hM hn]
theorem KeepsF.keeps {F : List Nat} {h H : Hp} (k : Keeps h H) : KeepsF F h H := fun M _ hn => (k M).resolve_left hn
/-- Heaps that differ only where functions of F made something new, and in new marks of ranges. -/
def SameF (F : List Nat) (h g g' : Hp) : Prop := ∀ M, (h.con M ≠ .none ∨ (M.f ∉ F ∧ M.s ≠ lpSlot)) → g'.con M = g.con M
theorem SameF.keeps {F : List Nat} {h0 h g g' : Hp} (s : SameF F h g g') (kh : Keeps h0 h) (k : Keeps h0 g) : Keeps h0 g' := by
  intro M
  rcases kh M with h1 | h1
  · exact .inl h1
  · by_cases hn : h0.con M = .none
    · exact .inl hn
    · rw [s M (.inl (by rw [h1]; exact hn))]
      exact k M
/-- An iterator: it goes over xs, each given to the range's body; of the heap it touches only what functions of F make. -/
def IterF (P : Program) (gf : FuncId) (caps : List AV) (F : List Nat) (xs : List (List AV)) : Prop :=
  ∀ (L : Lab) (h : Hp) (K : AV → Hp → Prop) (I : Nat → Hp → Prop) (D : Hp → Prop),
    (∀ i g g', I i g → SameF F h g g' → g'.con L = g.con L → I i g') → (∀ g g', D g → SameF F h g g' → g'.con L = g.con L → D g') → L.f ∉ F → I 0 h →
    (∀ i (hi : i < xs.length) g, I i g → YieldK P L xs[i] g (fun r g' => KeepsF F g g' ∧ ((r = .bool true ∧ I (i + 1) g') ∨ (r = .bool false ∧ D g')))) →
    (∀ g, I xs.length g → K (.tup []) g) → (∀ g, D g → K (.tup []) g) → CallK P gf (.yl L :: caps) h K
section
variable {P : Program} {fid : Nat} {T : Nat → List Tg} {gf : FuncId} {caps : List AV} {F : List Nat} {xs : List (List AV)} {ps : List Nat} {asg bd : Code} {Q : Ex → St → Prop} {sl : Nat → AV} {hp : Hp} {n : Nat}
theorem iter_rule (hm : P.follows .mixedOrders = true) (it : IterF P gf caps F xs) (hF : fid ∉ F) (hn : ntm P fid = n) (hps : ∀ p ∈ ps, p < n) (hok1 : okCode n T asg = true) (hok2 : okCode n T bd = true) (hlen : ∀ x ∈ xs, x.length = ps.length)
    (J : Nat → Hp → Prop) (D : Ex → Hp → Prop)
    (stab : ∀ i g g', J i g → SameF F hp g g' → J i g') (stabD : ∀ x g g', D x g → SameF F hp g g' → D x g') (h0 : J 0 hp)
    (step : ∀ i (hi : i < xs.length) g, J i g → awp P fid T asg (asgQ (awp P fid T bd (fun x s => KeepsF F g s.hp ∧ match x with | .normal => J (i + 1) s.hp | x => D x s.hp))) (putS ps xs[i] ⟨sl, g⟩))
    (fin : ∀ g, J xs.length g → Q .normal ⟨sl, g⟩) (brk : ∀ x g, x ≠ .normal → D x g → Q x ⟨sl, g⟩) (u : Tok (fun (_ : AV) (h : Hp) => endLpC (h.con ⟨fid, lpSlot, hp.cnt fid lpSlot⟩) (fun x => Q x ⟨sl, h.set ⟨fid, lpSlot, hp.cnt fid lpSlot⟩ .none⟩))) :
    CallX P gf (.yl ⟨fid, lpSlot, hp.cnt fid lpSlot⟩ :: caps) (hp.alloc fid lpSlot (.lp sl n ps asg bd .ready)) (fun _ h => endLpC (h.con ⟨fid, lpSlot, hp.cnt fid lpSlot⟩) (fun x => Q x ⟨sl, h.set ⟨fid, lpSlot, hp.cnt fid lpSlot⟩ .none⟩)) u := by
  obtain ⟨L, hL⟩ : ∃ L : Lab, (⟨fid, lpSlot, hp.cnt fid lpSlot⟩ : Lab) = L := ⟨_, rfl⟩
  revert u
  rw [hL]
  intro u
  have Lf : L.f = fid := by rw [← hL]
  have Ls : L.s = lpSlot := by rw [← hL]
  have Ln : hp.con L = .none := by rw [← hL]; exact hp.ok _ (by simp)
  have neL : ∀ M, (hp.con M ≠ .none ∨ (M.f ∉ F ∧ M.s ≠ lpSlot)) → M ≠ L := fun M hM hE => by
    subst hE
    rcases hM with h1 | h1
    · exact h1 Ln
    · exact h1.2 Ls
  have setS : ∀ (g : Hp) (c : Con), SameF F hp g (g.set L c) := fun g c M hM => by
    have := neL M hM
    simp [Hp.set, this]
  have alS : ∀ (c : Con), SameF F hp hp (hp.alloc fid lpSlot c) := fun c M hM => by
    have h1 := neL M hM
    rw [← hL] at h1
    simp [Hp.alloc, h1]
  have conL : ∀ c, (hp.alloc fid lpSlot c).con L = c := fun c => by rw [← hL]; simp [Hp.alloc]
  have sub : ∀ g g', SameF F (hp.alloc fid lpSlot (.lp sl n ps asg bd .ready)) g g' → SameF F hp g g' := fun g g' s M hh => s M (hh.imp (fun h1 h2 => h1 (by
    rw [← h2]; exact (alS _ M (.inl h1)).symm)) id)
  refine CallX.of (it L _ _ (fun i g => g.con L = .lp sl n ps asg bd .ready ∧ J i (g.set L .none)) (fun g => ∃ x, x ≠ .normal ∧ g.con L = .lp sl n ps asg bd (.done x) ∧ D x (g.set L .none)) ?_ ?_ (by rw [Lf]; exact hF) ?_ ?_ ?_ ?_)
  · rintro i g g' ⟨q1, q2⟩ hs hl
    exact ⟨by rw [hl, q1], stab i _ _ q2 fun M hh => by rw [setS g' .none M hh, setS g .none M hh]; exact sub _ _ hs M hh⟩
  · rintro g g' ⟨x, q0, q1, q2⟩ hs hl
    exact ⟨x, q0, by rw [hl, q1], stabD x _ _ q2 fun M hh => by rw [setS g' .none M hh, setS g .none M hh]; exact sub _ _ hs M hh⟩
  · exact ⟨conL _, stab 0 _ _ h0 fun M hh => by rw [setS _ .none M hh]; exact alS _ M hh⟩
  · rintro i hi g ⟨q1, q2⟩
    have hk := lt_of_con q1 (by simp)
    refine YieldK.of_awpC hm fid T q1 hn hps hok1 hok2 (hlen _ (List.getElem_mem hi)) (awp_mono (step i hi _ q2) fun x s hs => ?_)
    cases x with
    | exit id => exact hs.elim
    | ret => exact hs.elim
    | normal =>
      refine awp_mono hs fun x s ⟨hs1, hs2⟩ hc => ?_
      have hkc : L.k < s.hp.cnt L.f L.s := Nat.lt_of_lt_of_le hk (hc _ _)
      have kf : ∀ c, KeepsF F g (s.hp.back L c) := fun c M hM hn => by
        have : M ≠ L := fun hE => hF (by rw [← Lf, ← hE]; exact hM)
        rw [back_con hkc, if_neg this]
        have h2 : (g.set L .none).con M = g.con M := by simp [Hp.set, this]
        rw [← h2] at hn ⊢
        exact hs1 M hM hn
      have bS : ∀ c, SameF F hp s.hp ((s.hp.back L c).set L .none) := fun c M hM => by
        have := neL M hM
        simp [Hp.set, this, back_con hkc]
      have bL : ∀ c, (s.hp.back L c).con L = c := fun c => by rw [back_con hkc, if_pos rfl]
      cases x with
      | normal => exact ⟨kf _, .inl ⟨rfl, bL _, stab _ _ _ hs2 (bS _)⟩⟩
      | exit id => exact ⟨kf _, .inr ⟨rfl, _, by simp, bL _, stabD _ _ _ hs2 (bS _)⟩⟩
      | ret => exact ⟨kf _, .inr ⟨rfl, _, by simp, bL _, stabD _ _ _ hs2 (bS _)⟩⟩
  · rintro g ⟨q1, q2⟩
    rw [q1]
    exact fin _ q2
  · rintro g ⟨x, q0, q1, q2⟩
    rw [q1]
    cases x with
    | normal => exact absurd rfl q0
    | exit id => exact brk _ _ q0 q2
    | ret => exact brk _ _ q0 q2
end
@[go_sem] theorem alloc_set_cnt {h : Hp} {f s n : Nat} {cs : List AV} {c' : Con} (hn : h.cnt f s = n) : (h.alloc f s (.blk cs)).set ⟨f, s, n⟩ c' = h.alloc f s c' := by
  subst hn; exact alloc_set_blk
end Go.T
