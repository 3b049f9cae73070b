/- Part of a proof: a small logic of programs over plain values, shown sound for the given machine. -/
import Derived.Test.YtmajndgdfmnchaaT7
import Derived.Test.YtmajndgdfmnchaaT5
/- Freezing a list of elements each of which bears one own slice at most. -/
namespace Go.T
open Go
/-- What was gathered, read as a value: the first step of a freezing. -/
theorem Acc.step {h H : Hp} {sz : Nat} {v : AV} {xs : List AV} (a : Acc h H sz v xs) (kp : Keeps h H) : ∃ (ex : Bool) (sz1 : Nat) (H1 : Hp), (∀ ys : List AV, ys.length = xs.length → Le (.l ex sz1 ys) (.l false sz ys)) ∧ Keeps h H1 ∧
    (∀ M, (∀ L, v = .os L → M ≠ L) → H1.con M = H.con M) ∧ ∀ (mk : AV → AV), (∀ L, v = .os L → ∀ c, (mk v).frz L c = mk (v.frz L c)) → ∀ h' r, Frz H1 (mk (.l ex sz1 xs)) h' r → Frz H (mk v) h' r := by
  cases a with
  | nil =>
    refine ⟨true, 0, H, fun ys hy => ?_, kp, fun M _ => rfl, fun mk _ h' r f => f⟩
    have : ys = [] := List.length_eq_zero_iff.1 (by simpa using hy)
    subst this; exact Le.l0
  | own L xs hc hL =>
    refine ⟨false, sz, H.set L .none, fun ys _ => Le.refl _, kp.set hL _, fun M hM => ?_, fun mk hmk h' r f => .step _ L _ _ _ ?_⟩
    · rw [set_none_con, if_neg (hM L rfl)]
    · rw [hmk L rfl, hc]
      simpa [AV.frz] using f
theorem Acc.frz_ne {h H : Hp} {sz : Nat} {v : AV} {xs : List AV} (a : Acc h H sz v xs) {L : Lab} (hne : ∀ M, v = .os M → M ≠ L) (c : Con) : v.frz L c = v := by
  cases a with
  | nil => simp [AV.frz, AV.frzs]
  | own M xs hc hL => simp only [AV.frz, if_neg (hne M rfl)]
/-- Rows kept under labels made at one place: for each number one row. -/
inductive Held (h q : Hp) (f s sz : Nat) : List Nat → List (List AV) → Prop
  | nil : Held h q f s sz [] []
  | snoc {ks : List Nat} {cs : List (List AV)} (k : Nat) (c : List AV) : Held h q f s sz ks cs → q.con ⟨f, s, k⟩ = .arr sz c → h.con ⟨f, s, k⟩ = .none → Held h q f s sz (ks ++ [k]) (cs ++ [c])
theorem Held.len {h q : Hp} {f s sz : Nat} {ks : List Nat} {cs : List (List AV)} (a : Held h q f s sz ks cs) : ks.length = cs.length := by
  induction a with
  | nil => rfl
  | snoc k c _ h1 h2 ih => simp [ih]
theorem Held.at {h q : Hp} {f s sz : Nat} {ks : List Nat} {cs : List (List AV)} (a : Held h q f s sz ks cs) : ∀ i (h1 : i < ks.length) (h2 : i < cs.length), q.con ⟨f, s, ks[i]⟩ = .arr sz cs[i] ∧ h.con ⟨f, s, ks[i]⟩ = .none := by
  induction a with
  | nil => intro i h1; simp at h1
  | @snoc ks cs k c ha h1 h2 ih =>
    intro i i1 i2
    have hl := ha.len
    rw [List.length_append, List.length_singleton] at i1 i2
    by_cases hi : i < ks.length
    · rw [List.getElem_append_left hi, List.getElem_append_left (by omega)]
      exact ih i hi (by omega)
    · have e1 : i = ks.length := by omega
      subst e1
      rw [List.getElem_append_right (Nat.le_refl _), List.getElem_append_right (by omega)]
      simp only [Nat.sub_self, List.getElem_cons_zero, hl]
      exact ⟨h1, h2⟩
end Go.T
/- Own answers of a function to which own things are lent. -/
namespace Go.T
open Go
set_option linter.unusedSimpArgs false
set_option linter.unusedVariables false
open Classical in
/-- Of one label alone anything is known. -/
noncomputable def Hp.only (h : Hp) (L : Lab) : Hp := ⟨fun M => if M = L then h.con M else .none, h.cnt, fun M hM => by rw [h.ok M hM]; simp⟩
theorem only_con {h : Hp} {L : Lab} : (h.only L).con L = h.con L := by simp [Hp.only]
theorem only_ne {h : Hp} {L M : Lab} (hM : M ≠ L) : (h.only L).con M = .none := by simp [Hp.only, hM]
/-- **A call to which own things are lent; its answer is its own.** -/
theorem CallK.lendOwn {P : Program} {f : FuncId} {args args' : List AV} {h : Hp} {sz : Nat} {xs : List AV} {K : AV → Hp → Prop} (Ls : List Lab) (hc : ∀ h, CallK P f args' h (OwnR sz xs h)) (hl : LeF (lendA Ls h args) args') (hs : AV.sns h xs)
    (hk : ∀ v H, Acc h H sz v xs → (∀ M, M.k < h.cnt M.f M.s → H.con M = h.con M) → (∀ L, v = .os L → ¬ L.k < h.cnt L.f L.s) → K v H) : CallK P f args h K := by
  refine CallK.lendG Ls ?_
  refine CallK.leArg (args' := args') hl.length (fun i hi => ?_) ?_
  · have := hl.getD i
    have h1 : i < args'.length := hl.length ▸ hi
    rw [List.getD_eq_getElem?_getD, List.getD_eq_getElem?_getD, List.getElem?_eq_getElem hi, List.getElem?_eq_getElem h1] at this ⊢
    exact this
  intro w B e vs hh hsz hR
  refine (hc h.bare w B e vs hh hsz hR).mono ?_
  rintro en w' ⟨v, r, H, B', e', rfl, g1, g2, g3, ga, gk⟩
  cases ga with
  | nil =>
    have hd : ∀ L, H.bare.con L = .none ∨ H.bare.con L = H.con L := fun L => .inl rfl
    refine ⟨v, _, H.bare, B', e', rfl, g1.drop hd rfl, g2.trans (Ext.drop hd rfl), g3.mono (fun _ _ => rfl) (fun _ hb => hb) (fun _ _ => E_bare), by simp [AV.sn], fun L _ => trivial, fun hle => ?_⟩
    refine hk _ _ .nil (fun M hM => by simp only [Hp.merge]; rw [if_pos hM]) (fun L hL => by cases hL)
  | own L xs hcL hn =>
    have hd : ∀ M, (H.only L).con M = .none ∨ (H.only L).con M = H.con M := fun M => by
      by_cases hM : M = L
      · right; rw [hM, only_con]
      · left; exact only_ne hM
    have new : ¬ L.k < h.cnt L.f L.s := fun hL => (g2.live L hL (by rw [hcL]; trivial)).elim
    have hlive : ∀ M, ((H.only L).con M).live → (H.con M).live := fun M hl => by
      rcases hd M with h1 | h1
      · rw [h1] at hl; exact hl.elim
      · rw [← h1]; exact hl
    have hE : ∀ a v, e'.E H a v → e'.E (H.only L) a v := fun a v hE => by
      cases a with
      | pt M sz i j => exact ⟨hE.1, hE.2.1, fun hl => hE.2.2 (hlive M hl)⟩
      | os M => exact ⟨hE.1, hE.2.1, fun hl => hE.2.2 (hlive M hl)⟩
      | sl M sz a n => exact ⟨hE.1, hE.2.1, fun hl => hE.2.2 (hlive M hl)⟩
      | mr M => exact ⟨hE.1, hE.2.1, fun hl => hE.2.2 (hlive M hl)⟩
      | yl M => exact hE
      | _ => exact hE.elim
    refine ⟨v, _, H.only L, B', e', rfl, g1.drop hd rfl, g2.trans (Ext.drop hd rfl), g3.mono (fun _ _ => rfl) (fun _ hb => hb) hE, by simp only [AV.sn]; omega, fun M _ => ?_, fun hle => ?_⟩
    · by_cases hM : M = L
      · rw [hM, only_con, hcL]; exact hs
      · rw [only_ne hM]; trivial
    · refine hk _ _ (.own L xs ?_ (h.ok _ (by omega))) (fun M hM => by simp only [Hp.merge]; rw [if_pos hM]) (fun M hM => by cases hM; exact new)
      simp only [Hp.merge]; rw [if_neg new, only_con, hcL]
end Go.T
