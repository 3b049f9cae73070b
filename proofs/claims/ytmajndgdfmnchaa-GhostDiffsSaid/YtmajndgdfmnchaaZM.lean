/- ghost's Queue: its own functions. -/
import Derived.Test.YtmajndgdfmnchaaZK
import Derived.Test.YtmajndgdfmnchaaT3
namespace Go.Proofs.Ytmajndgdfmnchaa
open Go Go.T Go.Gh Go.Proofs
@[go_sem] theorem res40 : Try.f40.results = #[.tmp 2] := by kernel_rfl
@[go_sem] theorem res42 : Try.f42.results = #[.tmp 4] := by kernel_rfl
@[go_sem] theorem res43 : Try.f43.results = #[.tmp 4] := by kernel_rfl
@[go_sem] theorem res41 : Try.f41.results = #[] := by kernel_rfl
@[go_sem] theorem res16 : Try.f16.results = #[.tmp 6] := by kernel_rfl
set_option linter.unusedSimpArgs false
theorem encN_lfs (ns : List Note) : AV.lfs (ns.map encN) = true := by
  rw [lfs_iff]; intro x hx
  obtain ⟨n, _, rfl⟩ := List.mem_map.1 hx
  simp [encN, AV.lf, AV.lfs]
theorem encN_frzs (L : Lab) (c : Con) (ns : List Note) : AV.frzs L c (ns.map encN) = ns.map encN := by
  rw [frzs_map, List.map_map]
  apply List.map_congr_left
  intro n _
  simp [encN, AV.frz, AV.frzs]
set_option maxRecDepth 10000 in
theorem f40_spec (ns : List Note) (ex : Bool) (hlen : ns.length < 2 ^ 30) : PureF Try.prog 40 [.l ex 6 (ns.map encN)] (.l false 6 (ns.map encN)) := by
  refine PureF.of_awpZ mixed (fun _ => []) (fn := Try.f40) (by kernel_rfl) rfl (by kernel_rfl) (by show 1 ≤ _; decide) (by simp [AV.lf, encN_lfs]) (fun h => ?_)
  simp only [go_sem, Nat.reduceAdd, Nat.reduceBEq, Nat.reduceEqDiff, Nat.reduceLeDiff, Nat.reduceLT, Nat.reduceSub]
  refine ⟨fun hn => ⟨h, .done _ _ _ (by rw [hn]; exact Le.l0), Keeps.refl h⟩, by decide, by omega, by omega, _, .step _ ⟨40, 7, h.cnt 40 7⟩ _ _ _ (.done _ _ _ ?_), ?_⟩
  · simp [Hp.alloc, AV.frz]
    exact Le.refl _
  · exact Keeps.set ((Keeps.refl h).alloc _ _ _) ((Keeps.refl h).new 40 7) _
set_option maxRecDepth 10000 in
theorem f42_spec {g : Nat} {caps : List AV} (p : Note → Bool) (ns : List Note) (ex : Bool) (hlen : ns.length < 2 ^ 61) (h : Hp) (hb : hasBody Try.prog g = true)
    (hf : ∀ x ∈ ns, CallK Try.prog g ([encN x] ++ caps) h (fun r h' => r = .bool (p x) ∧ h' = h)) :
    CallK Try.prog 42 [.l ex 6 (ns.map encN), .fn (.func g) caps] h (fun r h' => r = .int .i64 (idxP p ns) ∧ h' = h) := by
  refine PureAt.of_awp mixed (fun _ => []) (fn := Try.f42) (by kernel_rfl) rfl (by kernel_rfl) (by show 2 ≤ _; decide) (by simp [AV.lf]) ?_
  simp only [go_sem, Nat.reduceAdd, Nat.reduceBEq, Nat.reduceEqDiff, Nat.reduceLeDiff, Nat.reduceLT, Nat.reduceSub]
  rw [awp_loop]
  refine ⟨fun s => ∃ i : Nat, i ≤ ns.length ∧ s.slots 0 = .l ex 6 (ns.map encN) ∧ s.slots 1 = .fn (.func g) caps ∧ s.slots 7 = .int .i64 ns.length ∧ s.slots 8 = .int .i64 i ∧ (∀ x ∈ ns.take i, p x = false) ∧ s.hp = h,
    fun s => match s.slots 8 with | .int _ i => (ns.length - i).toNat | _ => 0, ?_, ?_⟩
  · refine ⟨0, ?_⟩
    simp only [go_sem, Nat.reduceAdd, Nat.reduceBEq, Nat.reduceEqDiff, Nat.reduceLeDiff, Nat.reduceLT, Nat.reduceSub]
    exact ⟨by omega, rfl, fun x hx => by simp at hx⟩
  · rintro s ⟨i, hi, h0, h1, h7, h8, hn, hE⟩
    by_cases hlt : i < ns.length
    · have d0 : decide ((i : Int) < ns.length) = true := by simpa using hlt
      have hw : IntKind.i64.wrap ((i : Int) + 1) = ((i + 1 : Nat) : Int) := wrapS (by omega)
      have hdec : (((ns.length : Int) - ((i + 1 : Nat) : Int)).toNat < ((ns.length : Int) - (i : Int)).toNat) := by omega
      simp only [go_sem, d0, hw, h0, h1, h7, h8, hE, hb, encN_cells, Nat.reduceAdd, Nat.reduceBEq, Nat.reduceEqDiff, Nat.reduceLeDiff, Nat.reduceLT, Nat.reduceSub]
      refine ⟨by omega, hlt, CallX.at (hf ns[i] (List.getElem_mem hlt)) ?_⟩
      cases hp : p ns[i]
      · simp only [go_sem, hp, d0, hw, h0, h1, h7, h8, hE, hb, encN_cells, Nat.reduceAdd, Nat.reduceBEq, Nat.reduceEqDiff, Nat.reduceLeDiff, Nat.reduceLT, Nat.reduceSub]
        refine ⟨⟨i + 1, hlt, rfl, fun x hx => ?_⟩, hdec⟩
        rw [List.take_succ_eq_append_getElem hlt] at hx
        rcases List.mem_append.1 hx with hx | hx
        · exact hn x hx
        · simp at hx; rw [hx]; exact hp
      · have hr := idxP_at p ns i hlt hp hn
        simp only [go_sem, hp, hr, d0, hw, h0, h1, h7, h8, hE, hb, encN_cells, Nat.reduceAdd, Nat.reduceBEq, Nat.reduceEqDiff, Nat.reduceLeDiff, Nat.reduceLT, Nat.reduceSub]
        exact Keeps.refl h
    · have d0 : decide ((i : Int) < ns.length) = false := by simpa using hlt
      have : i = ns.length := by omega
      subst this
      rw [List.take_length] at hn
      have hr := idxP_none p ns hn
      simp only [go_sem, hr, d0, h0, h1, h7, h8, hE, Nat.reduceAdd, Nat.reduceBEq, Nat.reduceEqDiff, Nat.reduceLeDiff, Nat.reduceLT, Nat.reduceSub]
      exact Keeps.refl h
set_option maxRecDepth 10000 in
theorem f43_spec (obj : Int) (a b : Int) (La : Lab) (h : Hp) (ha : h.con La = .blk [.int .i64 a, .int .i64 b]) (x : Note) :
    CallK Try.prog 43 [encN x, .ip [.int .i64 obj], .pt La 0 0 0] h (fun r h' => r = .bool (isNext obj a b x) ∧ h' = h) := by
  refine PureAt.of_awp mixed (fun _ => []) (fn := Try.f43) (by kernel_rfl) rfl (by kernel_rfl) (by show 3 ≤ _; decide) (by simp [AV.lf]) ?_
  have hne := lab_ne (show (h.con La).live by rw [ha]; trivial)
  have hk := (Keeps.refl h).alloc 43 3 (.blk [.int .i64 x.kind, .int .i64 x.obj, .int .i64 x.node, .int .i64 x.num, .int .i64 x.to, .int .i64 x.next])
  rcases two (x.kind == 2) (x.obj == obj) with b1 | ⟨b1, b2⟩ | ⟨b1, b2⟩
  · have hr : isNext obj a b x = false := by simp [isNext, b1]
    simp only [go_sem, hr, b1, hne, ha, encN, Nat.reduceAdd, Nat.reduceBEq, Nat.reduceEqDiff, Nat.reduceLeDiff, Nat.reduceLT, Nat.reduceSub]
    exact hk
  · have hr : isNext obj a b x = false := by simp [isNext, b1, b2]
    simp only [go_sem, hr, b1, b2, hne, ha, encN, Nat.reduceAdd, Nat.reduceBEq, Nat.reduceEqDiff, Nat.reduceLeDiff, Nat.reduceLT, Nat.reduceSub]
    exact hk
  · rcases two (x.node == a) (x.num == b) with b3 | ⟨b3, b4⟩ | ⟨b3, b4⟩
    · have hr : isNext obj a b x = false := by simp [isNext, b1, b2, b3]
      simp only [go_sem, hr, b1, b2, b3, hne, ha, encN, Nat.reduceAdd, Nat.reduceBEq, Nat.reduceEqDiff, Nat.reduceLeDiff, Nat.reduceLT, Nat.reduceSub]
      exact hk
    · have hr : isNext obj a b x = false := by simp [isNext, b1, b2, b3, b4]
      simp only [go_sem, hr, b1, b2, b3, b4, hne, ha, encN, Nat.reduceAdd, Nat.reduceBEq, Nat.reduceEqDiff, Nat.reduceLeDiff, Nat.reduceLT, Nat.reduceSub]
      exact hk
    · have hr : isNext obj a b x = true := by simp [isNext, b1, b2, b3, b4]
      simp only [go_sem, hr, b1, b2, b3, b4, hne, ha, encN, Nat.reduceAdd, Nat.reduceBEq, Nat.reduceEqDiff, Nat.reduceLeDiff, Nat.reduceLT, Nat.reduceSub]
      exact hk

theorem frzQ {f : Fn} {H : Hp} {L8 L7 L4 L5 : Lab} {a b c d r : AV} (n1 : L7 ≠ L8) (n2 : L4 ≠ L8) (n3 : L5 ≠ L8) (n4 : L4 ≠ L7) (n5 : L5 ≠ L7) (n6 : L5 ≠ L4) (h8 : H.con L8 = .blk [a]) (h7 : H.con L7 = .blk [b]) (h4 : H.con L4 = .blk [c]) (h5 : H.con L5 = .blk [d])
    (ha : ∀ L c, a.frz L c = a) (hb : ∀ L c, b.frz L c = b) (hc : ∀ L x, c.frz L x = c) (hr : r = .fn f [.ip [a], .ip [b], .ip [c], .ip [d]]) :
    Frz H (.fn f [.pt L8 0 0 0, .pt L7 0 0 0, .pt L4 0 0 0, .pt L5 0 0 0]) ((((H.set L8 .none).set L7 .none).set L4 .none).set L5 .none) r := by
  subst hr
  refine .step _ L8 _ _ _ (.step _ L7 _ _ _ (.step _ L4 _ _ _ (.step _ L5 _ _ _ (.done _ _ _ ?_))))
  simp [AV.frz, AV.frzs, set_none_con, h8, h7, h4, h5, n1, n2, n3, n4, n5, n6, ha, hb, hc]
  exact Le.refl _
set_option maxRecDepth 10000 in
set_option maxHeartbeats 2000000 in
theorem f16_spec (homes : List Int) (eh : Bool) (ns : List Note) (ex : Bool) (obj : Int) (hlen : ns.length < 2 ^ 30) : PureF Try.prog 16 [.l eh 1 (homes.map I), .l ex 6 (ns.map encN), .int .i64 obj]
    (.fn (.func 41) [.ip [.int .i64 (if 0 ≤ obj ∧ obj < homes.length then homes.getD obj.toNat 0 else 0)], .ip [.bool (decide (0 ≤ obj ∧ obj < homes.length))], .ip [.l false 6 (ns.map encN)], .ip [.int .i64 obj]]) := by
  refine PureF.of_awpZ mixed (fun _ => []) (fn := Try.f16) (by kernel_rfl) rfl (by kernel_rfl) (by show 3 ≤ _; decide) (by simp [AV.lf, AV.lfs, encN_lfs]) (fun h => ?_)
  simp only [go_sem, Nat.reduceAdd, Nat.reduceBEq, Nat.reduceEqDiff, Nat.reduceLeDiff, Nat.reduceLT, Nat.reduceSub]
  refine CallX.pure (f40_spec ns ex hlen) ?_
  cases b1 : decide (obj ≥ 0) <;> cases b2 : decide (obj < homes.length)
  all_goals simp only [go_sem, b1, b2, I_cells, Nat.reduceAdd, Nat.reduceBEq, Nat.reduceEqDiff, Nat.reduceLeDiff, Nat.reduceLT, Nat.reduceSub]
  all_goals have k4 := (((Keeps.refl h).alloc 16 4 (.blk [.l ex 6 (ns.map encN)])).alloc 16 5 (.blk [.int .i64 obj])).set ((Keeps.refl h).new 16 4) (.blk [.l false 6 (ns.map encN)])
  all_goals have m5 := ((Keeps.refl h).alloc 16 4 .none).new 16 5
  all_goals have m7 := (((Keeps.refl h).alloc 16 4 .none).alloc 16 5 .none).new 16 7
  all_goals have m8 := ((((Keeps.refl h).alloc 16 4 .none).alloc 16 5 .none).alloc 16 7 .none).new 16 8
  · refine ⟨rfl, _, frzQ (a := .int .i64 0) (b := .bool false) (c := .l false 6 (ns.map encN)) (d := .int .i64 obj) (by simp) (by simp) (by simp) (by simp) (by simp) (by simp) (by simp [Hp.alloc, Hp.set, Con.keep]) (by simp [Hp.alloc, Hp.set, Con.keep]) (by simp [Hp.alloc, Hp.set, Con.keep]) (by simp [Hp.alloc, Hp.set, Con.keep]) (fun _ _ => rfl) (fun _ _ => rfl) (fun L c => by simp only [AV.frz, encN_frzs]) ?_, ?_⟩
    · have : ¬ (0 ≤ obj ∧ obj < homes.length) := by simp at b1; omega
      simp only [this, if_false, decide_false]
    · exact (((((k4.var 16 7 _ _).var 16 8 _ _).set m8 _).set m7 _).set ((Keeps.refl h).new 16 4) _).set m5 _
  · refine ⟨rfl, _, frzQ (a := .int .i64 0) (b := .bool false) (c := .l false 6 (ns.map encN)) (d := .int .i64 obj) (by simp) (by simp) (by simp) (by simp) (by simp) (by simp) (by simp [Hp.alloc, Hp.set, Con.keep]) (by simp [Hp.alloc, Hp.set, Con.keep]) (by simp [Hp.alloc, Hp.set, Con.keep]) (by simp [Hp.alloc, Hp.set, Con.keep]) (fun _ _ => rfl) (fun _ _ => rfl) (fun L c => by simp only [AV.frz, encN_frzs]) ?_, ?_⟩
    · have : ¬ (0 ≤ obj ∧ obj < homes.length) := by simp at b1; omega
      simp only [this, if_false, decide_false]
    · exact (((((k4.var 16 7 _ _).var 16 8 _ _).set m8 _).set m7 _).set ((Keeps.refl h).new 16 4) _).set m5 _
  · refine ⟨rfl, _, frzQ (a := .int .i64 0) (b := .bool false) (c := .l false 6 (ns.map encN)) (d := .int .i64 obj) (by simp) (by simp) (by simp) (by simp) (by simp) (by simp) (by simp [Hp.alloc, Hp.set, Con.keep]) (by simp [Hp.alloc, Hp.set, Con.keep]) (by simp [Hp.alloc, Hp.set, Con.keep]) (by simp [Hp.alloc, Hp.set, Con.keep]) (fun _ _ => rfl) (fun _ _ => rfl) (fun L c => by simp only [AV.frz, encN_frzs]) ?_, ?_⟩
    · have : ¬ (0 ≤ obj ∧ obj < homes.length) := by simp at b2; omega
      simp only [this, if_false, decide_false]
    · exact (((((k4.var 16 7 _ _).var 16 8 _ _).set m8 _).set m7 _).set ((Keeps.refl h).new 16 4) _).set m5 _
  · have o0 : 0 ≤ obj := by simpa using b1
    have o1 : obj < homes.length := by simpa using b2
    have ok : obj.toNat < homes.length := by omega
    refine ⟨o0, ok, rfl, _, frzQ (a := .int .i64 homes[obj.toNat]) (b := .bool true) (c := .l false 6 (ns.map encN)) (d := .int .i64 obj) (by simp) (by simp) (by simp) (by simp) (by simp) (by simp) (by simp [Hp.alloc, Hp.set, Con.keep]) (by simp [Hp.alloc, Hp.set, Con.keep]) (by simp [Hp.alloc, Hp.set, Con.keep]) (by simp [Hp.alloc, Hp.set, Con.keep]) (fun _ _ => rfl) (fun _ _ => rfl) (fun L c => by simp only [AV.frz, encN_frzs]) ?_, ?_⟩
    · have hb : (0 ≤ obj ∧ obj < homes.length) := ⟨o0, o1⟩
      simp only [hb, and_self, if_true, decide_true, List.getD_eq_getElem?_getD, List.getElem?_eq_getElem ok, Option.getD_some]
    · exact ((((((k4.var 16 7 _ _).var 16 8 _ _).set m8 _).set m8 _).set m7 _).set ((Keeps.refl h).new 16 4) _).set m5 _
end Go.Proofs.Ytmajndgdfmnchaa
