/- The laws of the first line, over byte lists. No program in sight. -/
import Derived.Test.YtnaeeklnlddcaaaDoorMRouteOrder2
import Derived.Lib.ItoaLen
import Derived.Lib.Atoi
import Derived.Lib.ItoaNum
import Derived.Lib.Join
import Derived.Laws.Pointers
namespace Go.Proofs.YtnaeeklnlddcaaaDoor

theorem made_x (marks : List UInt8) (h37 : marks.contains 37 = false) (x : UInt8) (r : List UInt8) (h : madeOf marks (x :: r) = true) :
    (x ≠ 37 ∧ plainB marks x = true ∧ madeOf marks r = true) ∨ ∃ a b t, x = 37 ∧ r = a :: b :: t ∧ hexB a = true ∧ hexB b = true ∧ madeOf marks t = true := by
  by_cases hx : x = 37
  · subst hx
    rw [made_37 marks h37] at h
    match r with
    | [] => cases h
    | [_] => cases h
    | a :: b :: t => simp only [Bool.and_eq_true] at h; exact .inr ⟨a, b, t, rfl, rfl, h.1.1, h.1.2, h.2⟩
  · rw [made_cons marks x r hx, Bool.and_eq_true] at h
    exact .inl ⟨hx, h.1, h.2⟩
theorem made_app (marks : List UInt8) (h37 : marks.contains 37 = false) : ∀ (n : Nat) (a b : List UInt8), a.length ≤ n → madeOf marks a = true → madeOf marks (a ++ b) = madeOf marks b
  | _, [], _, _, _ => rfl
  | 0, x :: r, _, hl, _ => by simp at hl
  | n + 1, x :: r, b, hl, h => by
    rcases made_x marks h37 x r h with ⟨hx, h1, h2⟩ | ⟨p, q, t, rfl, rfl, h1, h2, h3⟩
    · rw [List.cons_append, made_cons marks x _ hx, h1, made_app marks h37 n r b (by simpa using hl) h2]; rfl
    · rw [List.cons_append, List.cons_append, List.cons_append, made_37 marks h37]
      dsimp only
      rw [made_app marks h37 n t b (by simp at hl; omega) h3]
      simp [h1, h2]
theorem made_sub {m1 m2 : List UInt8} (h1 : m1.contains 37 = false) (h2 : m2.contains 37 = false) (hs : ∀ x, plainB m1 x = true → plainB m2 x = true) : ∀ (n : Nat) (a : List UInt8), a.length ≤ n → madeOf m1 a = true → madeOf m2 a = true
  | _, [], _, _ => rfl
  | 0, x :: r, hl, _ => by simp at hl
  | n + 1, x :: r, hl, h => by
    rcases made_x m1 h1 x r h with ⟨hx, h3, h4⟩ | ⟨p, q, t, rfl, rfl, h3, h4, h5⟩
    · rw [made_cons m2 x _ hx, hs x h3, made_sub h1 h2 hs n r (by simpa using hl) h4]; rfl
    · rw [made_37 m2 h2]
      dsimp only
      rw [made_sub h1 h2 hs n t (by simp at hl; omega) h5]
      simp [h3, h4]
/-- A byte that is neither plain, nor a digit, nor the sign of a quoted one, does not stand there. -/
theorem made_no {marks : List UInt8} (h37 : marks.contains 37 = false) {c : UInt8} (hc : plainB marks c = false) (hh : hexB c = false) (hc3 : c ≠ 37) : ∀ (n : Nat) (a : List UInt8), a.length ≤ n → madeOf marks a = true → c ∉ a
  | _, [], _, _ => by simp
  | 0, x :: r, hl, _ => by simp at hl
  | n + 1, x :: r, hl, h => by
    rcases made_x marks h37 x r h with ⟨hx, h3, h4⟩ | ⟨p, q, t, rfl, rfl, h3, h4, h5⟩
    · have ih := made_no h37 hc hh hc3 n r (by simpa using hl) h4
      intro hm
      rcases List.mem_cons.1 hm with e | e
      · rw [← e, hc] at h3; cases h3
      · exact ih e
    · have ih := made_no h37 hc hh hc3 n t (by simp at hl; omega) h5
      intro hm
      simp only [List.mem_cons] at hm
      rcases hm with e | e | e | e
      · exact hc3 e
      · rw [← e, hh] at h3; cases h3
      · rw [← e, hh] at h4; cases h4
      · exact ih e
theorem path_37 : pathL.contains 37 = false := by decide
theorem query_37 : queryL.contains 37 = false := by decide
theorem path_query {s : List UInt8} (h : pathOf s = true) : queryOf s = true := by
  unfold pathOf at h
  rw [Bool.and_eq_true] at h
  refine made_sub path_37 query_37 (fun x hx => ?_) s.length s (Nat.le_refl _) h.2
  unfold plainB at hx ⊢
  unfold queryL
  simp only [Bool.or_eq_true, List.contains_iff_mem, List.mem_append] at hx ⊢
  rcases hx with (h | h) | h
  · exact .inl (.inl h)
  · exact .inl (.inr h)
  · exact .inr (.inl h)
theorem query_app {a b : List UInt8} (ha : queryOf a = true) (hb : queryOf b = true) : queryOf (a ++ b) = true := by
  unfold queryOf
  rw [made_app _ query_37 a.length a b (Nat.le_refl _) ha]
  exact hb
theorem path_app {a b : List UInt8} (ha : pathOf a = true) (hb : pathOf b = true) : pathOf (a ++ b) = true := by
  unfold pathOf at *
  rw [Bool.and_eq_true] at *
  rw [made_app _ path_37 a.length a b (Nat.le_refl _) ha.2]
  refine ⟨?_, hb.2⟩
  cases a with
  | nil => exact hb.1
  | cons x r => exact ha.1
theorem path_head {s : List UInt8} (h : pathOf s = true) : ∃ r, s = 47 :: r := by
  unfold pathOf at h
  rw [Bool.and_eq_true] at h
  cases s with
  | nil => cases h.1
  | cons x r =>
    have := h.1
    simp at this
    exact ⟨r, by rw [this]⟩
theorem segs_app {a b : List UInt8} (ha : pathOf a = true) (hb : pathOf b = true) : segs (a ++ b) = segs a ++ segs b := by
  obtain ⟨r, rfl⟩ := path_head ha
  obtain ⟨t, rfl⟩ := path_head hb
  unfold segs
  simp only [List.cons_append, List.drop_succ_cons, List.drop_zero]
  rw [splitB_join, List.map_append]
/-! ## What is quoted -/
theorem quoteB_facts (x : UInt8) : (∀ y ∈ quoteB x, y ≠ 47) ∧ madeOf pathL (quoteB x) = true ∧ (quoteB x = [x] ∧ x ≠ 37 ∨ ∃ a b, quoteB x = [37, a, b] ∧ hexB a = true ∧ hexB b = true ∧ hexV a b = x) := by
  have : ∀ n : Fin 256, ((quoteB n.val.toUInt8).all fun y => y != 47) && madeOf pathL (quoteB n.val.toUInt8) && (match quoteB n.val.toUInt8 with | [y] => y == n.val.toUInt8 && y != 37 | [z, a, b] => z == 37 && hexB a && hexB b && hexV a b == n.val.toUInt8 | _ => false) = true := by decide +kernel
  have h := this ⟨x.toNat, x.toNat_lt⟩
  simp only [show x.toNat.toUInt8 = x by simp, Bool.and_eq_true] at h
  refine ⟨fun y hy => by have := List.all_eq_true.1 h.1.1 y hy; simpa using this, h.1.2, ?_⟩
  have h2 := h.2
  split at h2
  · rename_i y hy
    simp at h2
    exact .inl ⟨by rw [hy, h2.1], fun e => h2.2 (by rw [h2.1, e])⟩
  · rename_i z a b hy
    simp at h2
    exact .inr ⟨a, b, by rw [hy, h2.1.1.1], h2.1.1.2, h2.1.2, h2.2⟩
  · cases h2
theorem quote_slash (s : List UInt8) : 47 ∉ quoteOf s := by
  intro h
  obtain ⟨x, _, hx⟩ := List.mem_flatMap.1 h
  exact (quoteB_facts x).1 47 hx rfl
theorem made_quote : ∀ s : List UInt8, madeOf pathL (quoteOf s) = true
  | [] => rfl
  | x :: r => by
    unfold quoteOf
    rw [List.flatMap_cons, made_app _ path_37 _ _ _ (Nat.le_refl _) (quoteB_facts x).2.1]
    exact made_quote r
theorem unq_quote : ∀ s : List UInt8, unq (quoteOf s) = s
  | [] => rfl
  | x :: r => by
    have ih := unq_quote r
    unfold quoteOf at ih ⊢
    rw [List.flatMap_cons]
    rcases (quoteB_facts x).2.2 with ⟨h1, h2⟩ | ⟨a, b, h1, h2, h3, h4⟩
    · rw [h1, List.singleton_append, unq_cons x _ h2, ih]
    · rw [h1, show ([37, a, b] ++ List.flatMap quoteB r) = 37 :: a :: b :: List.flatMap quoteB r from rfl, unq_37 a b _ h2 h3, ih, h4]
def pathOfL (l : List (List UInt8)) : List UInt8 := l.flatMap fun s => 47 :: quoteOf s
theorem pathOfL_made : ∀ l : List (List UInt8), madeOf pathL (pathOfL l) = true
  | [] => rfl
  | x :: r => by
    unfold pathOfL
    rw [List.flatMap_cons, List.cons_append, made_cons pathL 47 _ (by decide), made_app _ path_37 _ _ _ (Nat.le_refl _) (made_quote x)]
    rw [show plainB pathL 47 = true by decide]
    exact pathOfL_made r
theorem pathOfL_path {l : List (List UInt8)} (h : l ≠ []) : pathOf (pathOfL l) = true := by
  unfold pathOf
  rw [pathOfL_made, Bool.and_true]
  cases l with
  | nil => exact absurd rfl h
  | cons x r => rfl
theorem splitB_quotes : ∀ (x : List UInt8) (r : List (List UInt8)), splitB 47 ((pathOfL (x :: r)).drop 1) = quoteOf x :: r.map quoteOf
  | x, [] => by
    unfold pathOfL
    simp only [List.flatMap_cons, List.flatMap_nil, List.append_nil, List.drop_succ_cons, List.drop_zero, List.map_nil]
    exact splitB_none 47 _ (quote_slash x)
  | x, y :: r => by
    have ih := splitB_quotes y r
    have e : (pathOfL (x :: y :: r)).drop 1 = quoteOf x ++ 47 :: (pathOfL (y :: r)).drop 1 := by
      unfold pathOfL
      simp
    rw [e, splitB_app 47 _ _ (quote_slash x), ih]
    rfl
theorem segs_quotes {l : List (List UInt8)} (h : l ≠ []) : segs (pathOfL l) = l := by
  cases l with
  | nil => exact absurd rfl h
  | cons x r =>
    unfold segs
    rw [splitB_quotes, List.map_cons, unq_quote, List.map_map]
    congr 1
    rw [show unq ∘ quoteOf = id from funext unq_quote, List.map_id]
/-! ## Written, and read again -/
theorem version_end {v : Int} (h : v = 0 ∨ v = 1) : versionOf ([72, 84, 84, 80, 47, 49, 46] ++ (if v = 0 then [48] else [49])) = some v := by rcases h with rfl | rfl <;> rfl
theorem method_facts {m : List UInt8} (h : methodOf m = true) : tokenOf m = true ∧ 32 ∉ m := by
  have : ∀ x ∈ methodsL, tokenOf x = true ∧ 32 ∉ x := by decide +kernel
  unfold methodOf at h
  rw [List.contains_iff_mem] at h
  exact this m h
theorem path_no {p : List UInt8} (h : pathOf p = true) : 32 ∉ p ∧ 63 ∉ p := by
  unfold pathOf at h
  rw [Bool.and_eq_true] at h
  exact ⟨made_no path_37 (by decide) (by decide) (by decide) p.length p (Nat.le_refl _) h.2, made_no path_37 (by decide) (by decide) (by decide) p.length p (Nat.le_refl _) h.2⟩
theorem query_no {q : List UInt8} (h : queryOf q = true) : 32 ∉ q := made_no query_37 (by decide) (by decide) (by decide) q.length q (Nat.le_refl _) h
theorem cutB_app (c : UInt8) (a b : List UInt8) (h : c ∉ a) : cutB c (a ++ c :: b) = (a, b, true) := by
  rw [cutB_at c (a ++ c :: b) a.length (by simpa using h) (by simp)]
  simp
theorem write_line {r : Rq} (h : writeOK r = true) : lineSt (writeL r) = 200 ∧ lineR (writeL r) = r := by
  unfold writeOK at h
  simp only [Bool.and_eq_true, decide_eq_true_eq] at h
  obtain ⟨⟨⟨⟨⟨hm, hp⟩, hq⟩, h0⟩, h1⟩, hl⟩ := h
  have hv : r.v = 0 ∨ r.v = 1 := by omega
  obtain ⟨ht, hm32⟩ := method_facts hm
  obtain ⟨hp32, hp63⟩ := path_no hp
  have hq32 := query_no hq
  have htg : 32 ∉ targetOf r := by
    unfold targetOf
    split
    · exact hp32
    · intro hx
      rcases List.mem_append.1 hx with h | h
      · exact hp32 h
      · rcases List.mem_cons.1 h with e | e
        · exact absurd e (by decide)
        · exact hq32 e
  have hw : writeL r = r.m ++ 32 :: (targetOf r ++ 32 :: ([72, 84, 84, 80, 47, 49, 46] ++ (if r.v = 0 then [48] else [49]))) := by unfold writeL; simp
  have c1 := cutB_app 32 r.m (targetOf r ++ 32 :: ([72, 84, 84, 80, 47, 49, 46] ++ (if r.v = 0 then [48] else [49]))) hm32
  have c2 := cutB_app 32 (targetOf r) ([72, 84, 84, 80, 47, 49, 46] ++ (if r.v = 0 then [48] else [49])) htg
  have c3 : (cutB 63 (targetOf r)).1 = r.p ∧ (cutB 63 (targetOf r)).2.1 = r.q := by
    unfold targetOf
    split
    · rename_i hq0
      rw [cutB_none 63 _ hp63]
      exact ⟨rfl, hq0.symm⟩
    · rw [cutB_app 63 r.p r.q hp63]
      exact ⟨rfl, rfl⟩
  have e : lineRq (writeL r) = r := by
    unfold lineRq lineTarget
    rw [hw, c1]
    simp only [c2, version_end hv, c3.1, c3.2, Option.getD_some]
  have hok : lineOK (writeL r) = true := by
    unfold lineOK
    rw [e]
    rw [hw] at hl ⊢
    rw [c1]
    simp only [c2, version_end hv, ht, hp, hq, decide_eq_true hl, Option.isSome_some, Bool.and_self]
  unfold lineSt lineR
  rw [hok, e, hm]
  exact ⟨rfl, rfl⟩
theorem cutB_yes (c : UInt8) : ∀ l : List UInt8, (cutB c l).2.2 = true → l = (cutB c l).1 ++ c :: (cutB c l).2.1 ∧ c ∉ (cutB c l).1
  | [], h => by cases h
  | x :: r, h => by
    unfold cutB at h ⊢
    split
    · rename_i hx; subst hx; simp
    · rename_i hx
      rw [if_neg hx] at h
      obtain ⟨h1, h2⟩ := cutB_yes c r h
      refine ⟨by simp only [List.cons_append]; rw [← h1], fun hm => ?_⟩
      rcases List.mem_cons.1 hm with e | e
      · exact hx e.symm
      · exact h2 e
theorem cutB_nope (c : UInt8) : ∀ l : List UInt8, (cutB c l).2.2 = false → (cutB c l).1 = l ∧ (cutB c l).2.1 = []
  | [], _ => ⟨rfl, rfl⟩
  | x :: r, h => by
    unfold cutB at h ⊢
    split
    · rename_i hx; rw [if_pos hx] at h; cases h
    · rename_i hx
      rw [if_neg hx] at h
      obtain ⟨h1, h2⟩ := cutB_nope c r h
      exact ⟨by rw [h1], h2⟩
theorem version_some {s : List UInt8} {v : Int} (h : versionOf s = some v) : (v = 0 ∨ v = 1) ∧ ∃ d, s = [72, 84, 84, 80, 47, 49, 46, d] := by
  unfold versionOf at h
  split at h
  · rename_i d
    split at h
    · have := Option.some.inj h
      refine ⟨?_, d, rfl⟩
      split at this <;> omega
    · cases h
  · cases h
/-- What a line tells is written as that line, but for an empty query's sign and the version's digit. -/
theorem line_write {s : List UInt8} (h : lineSt s = 200) : lineR s = lineRq s ∧ writeOK (lineRq s) = true ∧ (writeL (lineRq s)).length ≤ s.length ∧ ((writeL (lineRq s)).length < s.length ∨ (writeL (lineRq s)).take ((writeL (lineRq s)).length - 1) = s.take (s.length - 1)) := by
  have hok : lineOK s = true := by
    unfold lineSt at h
    split at h
    · assumption
    · cases h
  have hmo : methodOf (lineRq s).m = true := by
    unfold lineSt at h
    rw [if_pos hok] at h
    split at h
    · assumption
    · cases h
  have hr : lineR s = lineRq s := by unfold lineR; rw [hok, hmo]; rfl
  have hok' := hok
  unfold lineOK at hok
  simp only [Bool.and_eq_true, decide_eq_true_eq] at hok
  obtain ⟨⟨⟨⟨⟨⟨hl, h1⟩, h2⟩, h3⟩, ht⟩, hp⟩, hq⟩ := hok
  obtain ⟨e1, n1⟩ := cutB_yes 32 s h1
  obtain ⟨e2, n2⟩ := cutB_yes 32 _ h2
  obtain ⟨v, hv⟩ := Option.isSome_iff_exists.1 h3
  obtain ⟨hv01, d, hd⟩ := version_some hv
  have hrv : (lineRq s).v = v := by unfold lineRq; simp only [hv, Option.getD_some]
  have hrm : (lineRq s).m = (cutB 32 s).1 := rfl
  have htgt : lineTarget s = (cutB 32 (cutB 32 s).2.1).1 := rfl
  have hs : s = (lineRq s).m ++ 32 :: (lineTarget s ++ 32 :: [72, 84, 84, 80, 47, 49, 46, d]) := by rw [hrm, htgt, ← hd, ← e2]; exact e1
  have hw : writeL (lineRq s) = (lineRq s).m ++ 32 :: (targetOf (lineRq s) ++ 32 :: ([72, 84, 84, 80, 47, 49, 46] ++ (if (lineRq s).v = 0 then [48] else [49]))) := by unfold writeL; simp
  have htg : targetOf (lineRq s) = lineTarget s ∨ (targetOf (lineRq s)).length < (lineTarget s).length := by
    have hpq : (lineRq s).p = (cutB 63 (lineTarget s)).1 ∧ (lineRq s).q = (cutB 63 (lineTarget s)).2.1 := ⟨rfl, rfl⟩
    unfold targetOf
    rw [hpq.1, hpq.2]
    cases hc : (cutB 63 (lineTarget s)).2.2 with
    | true =>
      obtain ⟨e3, _⟩ := cutB_yes 63 _ hc
      split
      · right
        conv => rhs; rw [e3]
        simp
      · exact .inl e3.symm
    | false =>
      obtain ⟨e3, e4⟩ := cutB_nope 63 _ hc
      rw [e4, if_pos rfl]
      exact .inl e3
  have hone : ((if (lineRq s).v = 0 then [48] else [49]) : List UInt8).length = 1 := by split <;> rfl
  have hwl : (writeL (lineRq s)).length = (lineRq s).m.length + (targetOf (lineRq s)).length + 10 := by rw [hw]; simp only [List.length_append, List.length_cons, List.length_nil, hone]; omega
  have hsl : s.length = (lineRq s).m.length + (lineTarget s).length + 10 := by
    conv => lhs; rw [hs]
    simp only [List.length_append, List.length_cons, List.length_nil]; omega
  have hle : (writeL (lineRq s)).length ≤ s.length := by
    rcases htg with e | e
    · rw [e] at hwl; omega
    · omega
  refine ⟨hr, ?_, hle, ?_⟩
  · unfold writeOK
    simp only [hmo, hp, hq, hrv, Bool.and_eq_true, decide_eq_true_eq, true_and]
    omega
  · rcases htg with e | e
    · right
      have k : ∀ (x : UInt8) (a : List UInt8), (a ++ [x]).take ((a ++ [x]).length - 1) = a := fun x a => by simp
      obtain ⟨x, hx⟩ : ∃ x, (if (lineRq s).v = 0 then [48] else [49] : List UInt8) = [x] := by split <;> exact ⟨_, rfl⟩
      have w1 : writeL (lineRq s) = ((lineRq s).m ++ 32 :: (lineTarget s ++ 32 :: [72, 84, 84, 80, 47, 49, 46])) ++ [x] := by rw [hw, hx, e]; simp
      have w2 : s = ((lineRq s).m ++ 32 :: (lineTarget s ++ 32 :: [72, 84, 84, 80, 47, 49, 46])) ++ [d] := by
        conv => lhs; rw [hs]
        simp
      rw [w1, k]
      conv => rhs; rw [w2]
      rw [k]
    · left; omega
theorem line_not {s : List UInt8} (h : lineSt s ≠ 200) : (lineSt s = 400 ∨ lineSt s = 501) ∧ lineR s = rq0 := by
  unfold lineSt lineR at *
  cases h1 : lineOK s <;> cases h2 : methodOf (lineRq s).m <;> simp_all
end Go.Proofs.YtnaeeklnlddcaaaDoor
/- The program's functions on first lines, reckoned. -/
namespace Go.Proofs.YtnaeeklnlddcaaaDoor.Vex
open Go Go.RowKit
set_option maxRecDepth 100000
set_option linter.unusedSectionVars false
variable {gI : GI} [HasMax gI] [HasErr gI]

theorem toErr_f (s : List UInt8) (bs k : Int) (hs : s.length ≤ 1000000000) (hk : k = 1 ∨ k = 2) : FnE Tryd.prog gI 58 [str [80, 97, 114, 115, 101, 85, 105, 110, 116], str s, .int .i64 16, .int .i64 bs, errV k] (fun _ => True) (fun _ v _ => ∃ te p, v = .iface te p) :=
  ⟨callable Tryd.func58 rfl (by kernel_rfl), fun w hG _ => by
    obtain ⟨⟨e1, c1, d1⟩, ⟨e2, c2, d2⟩⟩ := HasErr.ok w hG
    rcases hk with rfl | rfl
    · exact (Tryd.strconv_toError_range ⟨⟨_⟩⟩ ⟨⟨s⟩⟩ 16 bs e2 w (by show s.length ≤ _; omega) c2 d2).mono fun _ _ ⟨N, he, _, _, hb⟩ => ⟨_, he, ⟨_, _, rfl⟩, hb⟩
    · exact (Tryd.strconv_toError_syntax ⟨⟨_⟩⟩ ⟨⟨s⟩⟩ 16 bs e1 w (by show s.length ≤ _; omega) c1 d1).mono fun _ _ ⟨N, he, _, _, hb⟩ => ⟨_, he, ⟨_, _, rfl⟩, hb⟩⟩
theorem PU_f (l : List UInt8) (bs mx : Int) (hb : bs = 8 ∧ mx = 255 ∨ bs = 64 ∧ mx = 18446744073709551615) (hl : l.length ≤ 1000000000) :
    FnE Tryd.prog gI 42 [str l, .int .i64 16, .int .i64 bs] (fun _ => True) fun _ v _ => ((puV mx l).2 = 0 ∧ v = .tuple #[.int .u64 (puV mx l).1, .nilIface]) ∨ ((puV mx l).2 ≠ 0 ∧ ∃ te p, v = .tuple #[.int .u64 (puV mx l).1, .iface te p]) := by
  have hk : (puV mx l).2 = 0 ∨ (puV mx l).2 = 1 ∨ (puV mx l).2 = 2 := by
    unfold puV
    split
    · exact .inr (.inr rfl)
    · exact puGo_err mx l 0
  refine FnE.of tys_ok Tryd.func42 rfl (by kernel_rfl) rfl rfl ?_; intro w hG hP
  (conv => whnf); repeat ((first | refine tk1 ?_ | refine tk2 ?_ | refine tk3 ?_ | refine tk12 (fun _ => ?_) | refine tk4 ?_ | refine tk5 ?_ | refine tk6 ?_ | refine tk7 ?_ | refine tk8 ?_ | refine tk9 ?_ | refine tk10 (fun _ _ => ?_) | refine tk11 (fun _ => ?_) | refine tk13 ?_ | refine tk14 ?_); (conv => whnf))
  refine CallK.fn (Parse16_f l bs mx hb hl) ?_
  generalize hn : (puV mx l).1 = n at *
  generalize hq : (puV mx l).2 = k at *
  rcases hk with rfl | hk
  · (conv => whnf); repeat ((first | refine tk1 ?_ | refine tk2 ?_ | refine tk3 ?_ | refine tk12 (fun _ => ?_) | refine tk4 ?_ | refine tk5 ?_ | refine tk6 ?_ | refine tk7 ?_ | refine tk8 ?_ | refine tk9 ?_ | refine tk10 (fun _ _ => ?_) | refine tk11 (fun _ => ?_) | refine tk13 ?_ | refine tk14 ?_); (conv => whnf))
    refine OthP.ifNe tys_ok rfl rfl (v := errV 0) (b := true) rfl ?_
    (conv => whnf); repeat ((first | refine tk1 ?_ | refine tk2 ?_ | refine tk3 ?_ | refine tk12 (fun _ => ?_) | refine tk4 ?_ | refine tk5 ?_ | refine tk6 ?_ | refine tk7 ?_ | refine tk8 ?_ | refine tk9 ?_ | refine tk10 (fun _ _ => ?_) | refine tk11 (fun _ => ?_) | refine tk13 ?_ | refine tk14 ?_); (conv => whnf))
    exact fun w' _ => .inl ⟨rfl, rfl⟩
  · have hne : k ≠ 0 := by omega
    obtain ⟨tk, pk, he⟩ : ∃ tk pk, errV k = .iface tk pk := by rcases hk with rfl | rfl <;> exact ⟨_, _, rfl⟩
    have hte := toErr_f (gI := gI) l bs k hl hk
    rw [he] at hte ⊢
    (conv => whnf); repeat ((first | refine tk1 ?_ | refine tk2 ?_ | refine tk3 ?_ | refine tk12 (fun _ => ?_) | refine tk4 ?_ | refine tk5 ?_ | refine tk6 ?_ | refine tk7 ?_ | refine tk8 ?_ | refine tk9 ?_ | refine tk10 (fun _ _ => ?_) | refine tk11 (fun _ => ?_) | refine tk13 ?_ | refine tk14 ?_); (conv => whnf))
    refine OthP.ifNe tys_ok rfl rfl (v := .iface tk pk) rfl ?_
    (conv => whnf); repeat ((first | refine tk1 ?_ | refine tk2 ?_ | refine tk3 ?_ | refine tk12 (fun _ => ?_) | refine tk4 ?_ | refine tk5 ?_ | refine tk6 ?_ | refine tk7 ?_ | refine tk8 ?_ | refine tk9 ?_ | refine tk10 (fun _ _ => ?_) | refine tk11 (fun _ => ?_) | refine tk13 ?_ | refine tk14 ?_); (conv => whnf))
    refine CallK.fnE hte (fun _ _ => trivial) (fun w1 v w2 hs hv hr => ⟨_, hs.below hr, ?_⟩)
    obtain ⟨te, p, rfl⟩ := hv
    (conv => whnf); repeat ((first | refine tk1 ?_ | refine tk2 ?_ | refine tk3 ?_ | refine tk12 (fun _ => ?_) | refine tk4 ?_ | refine tk5 ?_ | refine tk6 ?_ | refine tk7 ?_ | refine tk8 ?_ | refine tk9 ?_ | refine tk10 (fun _ _ => ?_) | refine tk11 (fun _ => ?_) | refine tk13 ?_ | refine tk14 ?_); (conv => whnf))
    exact fun w' _ => .inr ⟨hne, te, p, rfl⟩
theorem plain_f (x : UInt8) (marks : List UInt8) : Fn Tryd.prog gI 38 [.int .u8 x.toNat, str marks] (.bool (plainB marks x)) := by
  have hi := idx_in x marks
  have hx : (((x.toNat : Nat) : Int).toNat.toUInt8) = x := by simp
  have hp : plainB marks x = (smallI x.toNat || greatI x.toNat || decide (0 ≤ Lib.indexByte marks x)) := by
    unfold plainB
    congr 1
    rw [Bool.eq_iff_iff, List.contains_iff_mem, decide_eq_true_iff, hi]
  have hf := IndexByte_f (gI := gI) marks x.toNat
  rw [hx] at hf
  rw [hp]
  refine Fn.of tys_ok Tryd.func38 rfl (by kernel_rfl) rfl rfl ?_; intro w hG
  (repeat' ((conv => whnf); first | (first | refine tk1 ?_ | refine tk2 ?_ | refine tk3 ?_ | refine tk12 (fun _ => ?_) | refine tk4 ?_ | refine tk5 ?_ | refine tk6 ?_ | refine tk7 ?_ | refine tk8 ?_ | refine tk9 ?_ | refine tk10 (fun _ _ => ?_) | refine tk11 (fun _ => ?_) | refine tk13 ?_ | refine tk14 ?_) | refine Cmp.cases (fun _ => ?_) (fun _ => ?_) | refine IdxS.nat (by omega) ?_ | refine IdxS.go (by omega) (by omega) (fun _ _ _ => ?_) | refine SlcS.at (by omega) (by omega) (by omega) ?_ | refine CatS.at (by simp only [List.length_append, List.length_cons, List.length_nil]; omega) ?_ | refine CallK.fn hf ?_)); all_goals (conv => whnf)
  all_goals first | rfl | (refine congrArg Value.bool ?_; first | (simp [smallI, greatI, *]; done) | (rw [Bool.eq_iff_iff]; simp [smallI, greatI]; omega) | (rw [Bool.eq_iff_iff]; simp [smallI, greatI, *]; omega))
def codeV : List UInt8 → UInt8 × Bool
  | a :: b :: _ => if hexB a && hexB b then (hexV a b, true) else (0, false)
  | _ => (0, false)
theorem pu_two (a b : UInt8) : puV 255 [a, b] = if hexB a && hexB b then (16 * digI a.toNat + digI b.toNat, 0) else (0, 2) := by
  have h1 := dig_range a
  have h2 := dig_range b
  have e1 : hexB a = decide (0 ≤ digI a.toNat) := rfl
  have e2 : hexB b = decide (0 ≤ digI b.toNat) := rfl
  unfold puV
  rw [if_neg (by simp)]
  simp only [puGo]
  by_cases ha : 0 ≤ digI a.toNat
  · by_cases hb : 0 ≤ digI b.toNat
    · rw [e1, e2, decide_eq_true ha, decide_eq_true hb]
      rw [if_neg (by omega), if_neg (by omega), if_neg (by omega), if_neg (by omega), if_neg (by omega), if_neg (by omega)]
      simp only [Bool.and_self, if_true]
      congr 1
      omega
    · rw [e1, e2, decide_eq_true ha, decide_eq_false hb]
      rw [if_neg (by omega), if_neg (by omega), if_neg (by omega), if_pos (by omega)]
      simp
  · rw [e1, decide_eq_false ha, if_pos (by omega)]
    simp
theorem code_f (s : List UInt8) (hs : s.length ≤ 1000000000) : Fn Tryd.prog gI 31 [str s] (.tuple #[.int .u8 (codeV s).1.toNat, .bool (codeV s).2]) := by
  refine Fn.of tys_ok Tryd.func31 rfl (by kernel_rfl) rfl rfl ?_; intro w hG
  match s with
  | [] => (conv => whnf); repeat ((first | refine tk1 ?_ | refine tk2 ?_ | refine tk3 ?_ | refine tk12 (fun _ => ?_) | refine tk4 ?_ | refine tk5 ?_ | refine tk6 ?_ | refine tk7 ?_ | refine tk8 ?_ | refine tk9 ?_ | refine tk10 (fun _ _ => ?_) | refine tk11 (fun _ => ?_) | refine tk13 ?_ | refine tk14 ?_); (conv => whnf)); rfl
  | [_] => (conv => whnf); repeat ((first | refine tk1 ?_ | refine tk2 ?_ | refine tk3 ?_ | refine tk12 (fun _ => ?_) | refine tk4 ?_ | refine tk5 ?_ | refine tk6 ?_ | refine tk7 ?_ | refine tk8 ?_ | refine tk9 ?_ | refine tk10 (fun _ _ => ?_) | refine tk11 (fun _ => ?_) | refine tk13 ?_ | refine tk14 ?_); (conv => whnf)); rfl
  | a :: b :: r =>
    have hl : (((a :: b :: r).length : Nat) : Int) = (r.length : Int) + 2 := by simp; omega
    have hpu := PU_f (gI := gI) [a, b] 8 255 (.inl ⟨rfl, rfl⟩) (by simp)
    rw [pu_two] at hpu
    (conv => whnf); repeat ((first | refine tk1 ?_ | refine tk2 ?_ | refine tk3 ?_ | refine tk12 (fun _ => ?_) | refine tk4 ?_ | refine tk5 ?_ | refine tk6 ?_ | refine tk7 ?_ | refine tk8 ?_ | refine tk9 ?_ | refine tk10 (fun _ _ => ?_) | refine tk11 (fun _ => ?_) | refine tk13 ?_ | refine tk14 ?_); (conv => whnf))
    refine SlcS.at (by omega) (by omega) (by rw [hl]; omega) ?_
    (conv => whnf); repeat ((first | refine tk1 ?_ | refine tk2 ?_ | refine tk3 ?_ | refine tk12 (fun _ => ?_) | refine tk4 ?_ | refine tk5 ?_ | refine tk6 ?_ | refine tk7 ?_ | refine tk8 ?_ | refine tk9 ?_ | refine tk10 (fun _ _ => ?_) | refine tk11 (fun _ => ?_) | refine tk13 ?_ | refine tk14 ?_); (conv => whnf))
    refine CallK.fnE hpu (fun _ _ => trivial) (fun w1 v w2 hs hv hr => ⟨_, hs.below hr, ?_⟩)
    cases hh : hexB a && hexB b
    · rw [hh] at hv
      simp only [Bool.false_eq_true, if_false] at hv
      rcases hv with ⟨h2, _⟩ | ⟨_, te, p, rfl⟩
      · exact absurd h2 (by decide)
      (conv => whnf); repeat ((first | refine tk1 ?_ | refine tk2 ?_ | refine tk3 ?_ | refine tk12 (fun _ => ?_) | refine tk4 ?_ | refine tk5 ?_ | refine tk6 ?_ | refine tk7 ?_ | refine tk8 ?_ | refine tk9 ?_ | refine tk10 (fun _ _ => ?_) | refine tk11 (fun _ => ?_) | refine tk13 ?_ | refine tk14 ?_); (conv => whnf))
      refine DrawS.go (qs 26) tys_ok mixed (by kernel_rfl) ?_
      (conv => whnf); repeat ((first | refine tk1 ?_ | refine tk2 ?_ | refine tk3 ?_ | refine tk12 (fun _ => ?_) | refine tk4 ?_ | refine tk5 ?_ | refine tk6 ?_ | refine tk7 ?_ | refine tk8 ?_ | refine tk9 ?_ | refine tk10 (fun _ _ => ?_) | refine tk11 (fun _ => ?_) | refine tk13 ?_ | refine tk14 ?_); (conv => whnf))
      refine Ar.in8 (by omega) (by omega) ?_
      (conv => whnf); repeat ((first | refine tk1 ?_ | refine tk2 ?_ | refine tk3 ?_ | refine tk12 (fun _ => ?_) | refine tk4 ?_ | refine tk5 ?_ | refine tk6 ?_ | refine tk7 ?_ | refine tk8 ?_ | refine tk9 ?_ | refine tk10 (fun _ _ => ?_) | refine tk11 (fun _ => ?_) | refine tk13 ?_ | refine tk14 ?_); (conv => whnf))
      refine OthP.ifEq tys_ok rfl rfl (v := .iface te p) rfl ?_
      (conv => whnf); repeat ((first | refine tk1 ?_ | refine tk2 ?_ | refine tk3 ?_ | refine tk12 (fun _ => ?_) | refine tk4 ?_ | refine tk5 ?_ | refine tk6 ?_ | refine tk7 ?_ | refine tk8 ?_ | refine tk9 ?_ | refine tk10 (fun _ _ => ?_) | refine tk11 (fun _ => ?_) | refine tk13 ?_ | refine tk14 ?_); (conv => whnf))
      simp [codeV, hh]
    · rw [hh] at hv
      simp only [if_true] at hv
      rcases hv with ⟨_, rfl⟩ | ⟨h2, _⟩
      rotate_left
      · exact absurd rfl h2
      rw [Bool.and_eq_true] at hh
      have hv := hexV_toNat a b hh.1 hh.2
      have ra := dig_range a
      have rb := dig_range b
      have ha0 := hh.1
      have hb0 := hh.2
      rw [hexB_iff] at ha0 hb0
      have na : ¬ (a.toNat : Int) = 43 ∧ ¬ (a.toNat : Int) = 45 ∧ ¬ (a.toNat : Int) = 95 := by
        refine ⟨?_, ?_, ?_⟩ <;> (intro e; rw [e] at ha0; revert ha0; decide)
      have nb : ¬ (b.toNat : Int) = 95 := by intro e; rw [e] at hb0; revert hb0; decide
      (conv => whnf); repeat ((first | refine tk1 ?_ | refine tk2 ?_ | refine tk3 ?_ | refine tk12 (fun _ => ?_) | refine tk4 ?_ | refine tk5 ?_ | refine tk6 ?_ | refine tk7 ?_ | refine tk8 ?_ | refine tk9 ?_ | refine tk10 (fun _ _ => ?_) | refine tk11 (fun _ => ?_) | refine tk13 ?_ | refine tk14 ?_); (conv => whnf))
      refine DrawS.go (qs 26) tys_ok mixed (by kernel_rfl) ?_
      (conv => whnf); repeat ((first | refine tk1 ?_ | refine tk2 ?_ | refine tk3 ?_ | refine tk12 (fun _ => ?_) | refine tk4 ?_ | refine tk5 ?_ | refine tk6 ?_ | refine tk7 ?_ | refine tk8 ?_ | refine tk9 ?_ | refine tk10 (fun _ _ => ?_) | refine tk11 (fun _ => ?_) | refine tk13 ?_ | refine tk14 ?_); (conv => whnf))
      refine Ar.in8 (by omega) (by omega) ?_
      (conv => whnf); repeat ((first | refine tk1 ?_ | refine tk2 ?_ | refine tk3 ?_ | refine tk12 (fun _ => ?_) | refine tk4 ?_ | refine tk5 ?_ | refine tk6 ?_ | refine tk7 ?_ | refine tk8 ?_ | refine tk9 ?_ | refine tk10 (fun _ _ => ?_) | refine tk11 (fun _ => ?_) | refine tk13 ?_ | refine tk14 ?_); (conv => whnf))
      refine OthP.ifEq tys_ok rfl rfl (v := .nilIface) rfl ?_
      (conv => whnf); repeat ((first | refine tk1 ?_ | refine tk2 ?_ | refine tk3 ?_ | refine tk12 (fun _ => ?_) | refine tk4 ?_ | refine tk5 ?_ | refine tk6 ?_ | refine tk7 ?_ | refine tk8 ?_ | refine tk9 ?_ | refine tk10 (fun _ _ => ?_) | refine tk11 (fun _ => ?_) | refine tk13 ?_ | refine tk14 ?_); (conv => whnf))
      refine IdxS.at a rfl (by omega) ?_
      (conv => whnf); repeat ((first | refine tk1 ?_ | refine tk2 ?_ | refine tk3 ?_ | refine tk12 (fun _ => ?_) | refine tk4 ?_ | refine tk5 ?_ | refine tk6 ?_ | refine tk7 ?_ | refine tk8 ?_ | refine tk9 ?_ | refine tk10 (fun _ _ => ?_) | refine tk11 (fun _ => ?_) | refine tk13 ?_ | refine tk14 ?_); (conv => whnf))
      refine IdxS.at a rfl (by omega) ?_
      (conv => whnf); repeat ((first | refine tk1 ?_ | refine tk2 ?_ | refine tk3 ?_ | refine tk12 (fun _ => ?_) | refine tk4 ?_ | refine tk5 ?_ | refine tk6 ?_ | refine tk7 ?_ | refine tk8 ?_ | refine tk9 ?_ | refine tk10 (fun _ _ => ?_) | refine tk11 (fun _ => ?_) | refine tk13 ?_ | refine tk14 ?_); (conv => whnf))
      refine IdxS.at a rfl (by omega) ?_
      (conv => whnf); repeat ((first | refine tk1 ?_ | refine tk2 ?_ | refine tk3 ?_ | refine tk12 (fun _ => ?_) | refine tk4 ?_ | refine tk5 ?_ | refine tk6 ?_ | refine tk7 ?_ | refine tk8 ?_ | refine tk9 ?_ | refine tk10 (fun _ _ => ?_) | refine tk11 (fun _ => ?_) | refine tk13 ?_ | refine tk14 ?_); (conv => whnf))
      refine IdxS.at b rfl (by omega) ?_
      (conv => whnf); repeat ((first | refine tk1 ?_ | refine tk2 ?_ | refine tk3 ?_ | refine tk12 (fun _ => ?_) | refine tk4 ?_ | refine tk5 ?_ | refine tk6 ?_ | refine tk7 ?_ | refine tk8 ?_ | refine tk9 ?_ | refine tk10 (fun _ _ => ?_) | refine tk11 (fun _ => ?_) | refine tk13 ?_ | refine tk14 ?_); (conv => whnf))
      simp [codeV, hh, hv]
theorem made_f (s marks : List UInt8) (h37 : marks.contains 37 = false) (hs : s.length ≤ 1000000000) : Fn Tryd.prog gI 29 [str s, str marks] (.bool (madeOf marks s)) := by
  refine Fn.of tys_ok Tryd.func29 rfl (by kernel_rfl) rfl rfl ?_; intro w hG
  (conv => whnf); repeat ((first | refine tk1 ?_ | refine tk2 ?_ | refine tk3 ?_ | refine tk12 (fun _ => ?_) | refine tk4 ?_ | refine tk5 ?_ | refine tk6 ?_ | refine tk7 ?_ | refine tk8 ?_ | refine tk9 ?_ | refine tk10 (fun _ _ => ?_) | refine tk11 (fun _ => ?_) | refine tk13 ?_ | refine tk14 ?_); (conv => whnf))
  refine LoopS.lp tys_ok (fun (i : Nat) u => [str s, str marks, u 2, u 3, u 4, .int .i64 (i : Nat), u 6, u 7, u 8, u 9, u 10, u 11, u 12, u 13, u 14, u 15, u 16, u 17, u 18, u 19, u 20, u 21, u 22, u 23, u 24, u 25, u 26, u 27, u 28, u 29, u 30, u 31, u 32, u 33, u 34]) (fun _ => [])
    (fun i => i ≤ s.length ∧ madeOf marks s = madeOf marks (s.drop i)) (fun i => s.length - i) 0 ⟨Nat.zero_le _, rfl⟩ rfl (by repeat' (first | exact List.Sublist.refl _ | exact List.nil_sublist _ | apply List.Sublist.cons_cons | apply List.Sublist.cons)) ?_
  intro i u ⟨hi, hI⟩
  (conv => whnf); repeat ((first | refine tk1 ?_ | refine tk2 ?_ | refine tk3 ?_ | refine tk12 (fun _ => ?_) | refine tk4 ?_ | refine tk5 ?_ | refine tk6 ?_ | refine tk7 ?_ | refine tk8 ?_ | refine tk9 ?_ | refine tk10 (fun _ _ => ?_) | refine tk11 (fun _ => ?_) | refine tk13 ?_ | refine tk14 ?_); (conv => whnf))
  refine Cmp.cases (fun hlt => ?_) (fun hlt => ?_)
  · have hlt' : i < s.length := by omega
    obtain ⟨x, hx⟩ : ∃ x, s[i] = x := ⟨_, rfl⟩
    have hd : s.drop i = x :: s.drop (i + 1) := by rw [← hx]; exact List.drop_eq_getElem_cons hlt'
    have hxi : s[(i : Int).toNat]? = some x := by rw [Int.toNat_natCast, List.getElem?_eq_getElem hlt', hx]
    rw [hd] at hI
    (conv => whnf); repeat ((first | refine tk1 ?_ | refine tk2 ?_ | refine tk3 ?_ | refine tk12 (fun _ => ?_) | refine tk4 ?_ | refine tk5 ?_ | refine tk6 ?_ | refine tk7 ?_ | refine tk8 ?_ | refine tk9 ?_ | refine tk10 (fun _ _ => ?_) | refine tk11 (fun _ => ?_) | refine tk13 ?_ | refine tk14 ?_); (conv => whnf))
    refine IdxS.at x hxi (by omega) ?_
    (conv => whnf); repeat ((first | refine tk1 ?_ | refine tk2 ?_ | refine tk3 ?_ | refine tk12 (fun _ => ?_) | refine tk4 ?_ | refine tk5 ?_ | refine tk6 ?_ | refine tk7 ?_ | refine tk8 ?_ | refine tk9 ?_ | refine tk10 (fun _ _ => ?_) | refine tk11 (fun _ => ?_) | refine tk13 ?_ | refine tk14 ?_); (conv => whnf))
    refine CallK.fnB (plain_f x marks) (fun hp => ?_) (fun hp => ?_)
    · have hx37 : x ≠ 37 := fun e => by subst e; rw [plain_not_37 h37] at hp; cases hp
      rw [made_cons marks x _ hx37, hp] at hI
      (conv => whnf); repeat ((first | refine tk1 ?_ | refine tk2 ?_ | refine tk3 ?_ | refine tk12 (fun _ => ?_) | refine tk4 ?_ | refine tk5 ?_ | refine tk6 ?_ | refine tk7 ?_ | refine tk8 ?_ | refine tk9 ?_ | refine tk10 (fun _ _ => ?_) | refine tk11 (fun _ => ?_) | refine tk13 ?_ | refine tk14 ?_); (conv => whnf))
      exact ⟨i + 1, ⟨by omega, hI⟩, rfl, (by repeat' (first | exact List.Sublist.refl _ | exact List.nil_sublist _ | apply List.Sublist.cons_cons | apply List.Sublist.cons)), by dsimp only; omega⟩
    · (conv => whnf); repeat ((first | refine tk1 ?_ | refine tk2 ?_ | refine tk3 ?_ | refine tk12 (fun _ => ?_) | refine tk4 ?_ | refine tk5 ?_ | refine tk6 ?_ | refine tk7 ?_ | refine tk8 ?_ | refine tk9 ?_ | refine tk10 (fun _ _ => ?_) | refine tk11 (fun _ => ?_) | refine tk13 ?_ | refine tk14 ?_); (conv => whnf))
      refine IdxS.at x hxi (by omega) ?_
      (conv => whnf); repeat ((first | refine tk1 ?_ | refine tk2 ?_ | refine tk3 ?_ | refine tk12 (fun _ => ?_) | refine tk4 ?_ | refine tk5 ?_ | refine tk6 ?_ | refine tk7 ?_ | refine tk8 ?_ | refine tk9 ?_ | refine tk10 (fun _ _ => ?_) | refine tk11 (fun _ => ?_) | refine tk13 ?_ | refine tk14 ?_); (conv => whnf))
      refine Cmp.cases (fun hq => ?_) (fun hq => ?_)
      · have hx37 : x ≠ 37 := fun e => by subst e; exact hq rfl
        rw [made_cons marks x _ hx37, hp] at hI
        (conv => whnf); repeat ((first | refine tk1 ?_ | refine tk2 ?_ | refine tk3 ?_ | refine tk12 (fun _ => ?_) | refine tk4 ?_ | refine tk5 ?_ | refine tk6 ?_ | refine tk7 ?_ | refine tk8 ?_ | refine tk9 ?_ | refine tk10 (fun _ _ => ?_) | refine tk11 (fun _ => ?_) | refine tk13 ?_ | refine tk14 ?_); (conv => whnf))
        rw [hI]; rfl
      · have hx37 : x = 37 := b8 (n := 37) (by decide) (by omega)
        subst hx37
        rw [made_37 marks h37] at hI
        (conv => whnf); repeat ((first | refine tk1 ?_ | refine tk2 ?_ | refine tk3 ?_ | refine tk12 (fun _ => ?_) | refine tk4 ?_ | refine tk5 ?_ | refine tk6 ?_ | refine tk7 ?_ | refine tk8 ?_ | refine tk9 ?_ | refine tk10 (fun _ _ => ?_) | refine tk11 (fun _ => ?_) | refine tk13 ?_ | refine tk14 ?_); (conv => whnf))
        refine SlcS.at (by omega) (by omega) (by omega) ?_
        rw [show (List.take (s.length : Int).toNat s).drop ((i : Int) + 1).toNat = s.drop (i + 1) by rw [Int.toNat_natCast, List.take_length]; congr 1]
        (conv => whnf); repeat ((first | refine tk1 ?_ | refine tk2 ?_ | refine tk3 ?_ | refine tk12 (fun _ => ?_) | refine tk4 ?_ | refine tk5 ?_ | refine tk6 ?_ | refine tk7 ?_ | refine tk8 ?_ | refine tk9 ?_ | refine tk10 (fun _ _ => ?_) | refine tk11 (fun _ => ?_) | refine tk13 ?_ | refine tk14 ?_); (conv => whnf))
        refine CallK.fn (code_f (s.drop (i + 1)) (by rw [List.length_drop]; omega)) ?_
        have hz : (s.drop (i + 1)).length = s.length - (i + 1) := List.length_drop
        match hr : s.drop (i + 1) with
        | [] =>
          rw [hr] at hI
          (conv => whnf); repeat ((first | refine tk1 ?_ | refine tk2 ?_ | refine tk3 ?_ | refine tk12 (fun _ => ?_) | refine tk4 ?_ | refine tk5 ?_ | refine tk6 ?_ | refine tk7 ?_ | refine tk8 ?_ | refine tk9 ?_ | refine tk10 (fun _ _ => ?_) | refine tk11 (fun _ => ?_) | refine tk13 ?_ | refine tk14 ?_); (conv => whnf))
          rw [hI]
        | [y] =>
          rw [hr] at hI
          (conv => whnf); repeat ((first | refine tk1 ?_ | refine tk2 ?_ | refine tk3 ?_ | refine tk12 (fun _ => ?_) | refine tk4 ?_ | refine tk5 ?_ | refine tk6 ?_ | refine tk7 ?_ | refine tk8 ?_ | refine tk9 ?_ | refine tk10 (fun _ _ => ?_) | refine tk11 (fun _ => ?_) | refine tk13 ?_ | refine tk14 ?_); (conv => whnf))
          rw [hI]
        | a :: b :: t =>
          rw [hr] at hI hz
          simp only [List.length_cons] at hz
          have ht : s.drop (i + 3) = t := by
            rw [show i + 3 = (i + 1) + 2 by omega, ← List.drop_drop, hr]; rfl
          cases hh : hexB a && hexB b
          · have hc : codeV (a :: b :: t) = (0, false) := by simp only [codeV, hh]; rfl
            rw [hc]
            simp only [hh, Bool.false_and] at hI
            (conv => whnf); repeat ((first | refine tk1 ?_ | refine tk2 ?_ | refine tk3 ?_ | refine tk12 (fun _ => ?_) | refine tk4 ?_ | refine tk5 ?_ | refine tk6 ?_ | refine tk7 ?_ | refine tk8 ?_ | refine tk9 ?_ | refine tk10 (fun _ _ => ?_) | refine tk11 (fun _ => ?_) | refine tk13 ?_ | refine tk14 ?_); (conv => whnf))
            rw [hI]
          · have hc : codeV (a :: b :: t) = (hexV a b, true) := by simp only [codeV, hh]; rfl
            rw [hc]
            simp only [hh, Bool.true_and] at hI
            (conv => whnf); repeat ((first | refine tk1 ?_ | refine tk2 ?_ | refine tk3 ?_ | refine tk12 (fun _ => ?_) | refine tk4 ?_ | refine tk5 ?_ | refine tk6 ?_ | refine tk7 ?_ | refine tk8 ?_ | refine tk9 ?_ | refine tk10 (fun _ _ => ?_) | refine tk11 (fun _ => ?_) | refine tk13 ?_ | refine tk14 ?_); (conv => whnf))
            exact ⟨i + 3, ⟨by omega, by rw [hI, ht]⟩, rfl, (by repeat' (first | exact List.Sublist.refl _ | exact List.nil_sublist _ | apply List.Sublist.cons_cons | apply List.Sublist.cons)), by dsimp only; omega⟩
  · (conv => whnf); repeat ((first | refine tk1 ?_ | refine tk2 ?_ | refine tk3 ?_ | refine tk12 (fun _ => ?_) | refine tk4 ?_ | refine tk5 ?_ | refine tk6 ?_ | refine tk7 ?_ | refine tk8 ?_ | refine tk9 ?_ | refine tk10 (fun _ _ => ?_) | refine tk11 (fun _ => ?_) | refine tk13 ?_ | refine tk14 ?_); (conv => whnf))
    rw [hI, List.drop_eq_nil_of_le (by omega)]; rfl
theorem head_prefix (s : List UInt8) : Lib.hasPrefix s [47] = (s.head? == some 47) := by
  cases s with
  | nil => rfl
  | cons x r => simp [Lib.hasPrefix, List.isPrefixOf, Bool.beq_comm]
theorem Path_f (s : List UInt8) (hs : s.length ≤ 1000000000) : Fn Tryd.prog gI 21 [str s] (.bool (pathOf s)) := by
  refine Fn.of tys_ok Tryd.func21 rfl (by kernel_rfl) rfl rfl ?_; intro w hG
  (conv => whnf); repeat ((first | refine tk1 ?_ | refine tk2 ?_ | refine tk3 ?_ | refine tk12 (fun _ => ?_) | refine tk4 ?_ | refine tk5 ?_ | refine tk6 ?_ | refine tk7 ?_ | refine tk8 ?_ | refine tk9 ?_ | refine tk10 (fun _ _ => ?_) | refine tk11 (fun _ => ?_) | refine tk13 ?_ | refine tk14 ?_); (conv => whnf))
  refine CallK.fn (HasPrefix_f s [47]) ?_
  rw [head_prefix]
  cases h : (s.head? == some 47)
  · (conv => whnf); repeat ((first | refine tk1 ?_ | refine tk2 ?_ | refine tk3 ?_ | refine tk12 (fun _ => ?_) | refine tk4 ?_ | refine tk5 ?_ | refine tk6 ?_ | refine tk7 ?_ | refine tk8 ?_ | refine tk9 ?_ | refine tk10 (fun _ _ => ?_) | refine tk11 (fun _ => ?_) | refine tk13 ?_ | refine tk14 ?_); (conv => whnf))
    unfold pathOf; rw [h]; rfl
  · (conv => whnf); repeat ((first | refine tk1 ?_ | refine tk2 ?_ | refine tk3 ?_ | refine tk12 (fun _ => ?_) | refine tk4 ?_ | refine tk5 ?_ | refine tk6 ?_ | refine tk7 ?_ | refine tk8 ?_ | refine tk9 ?_ | refine tk10 (fun _ _ => ?_) | refine tk11 (fun _ => ?_) | refine tk13 ?_ | refine tk14 ?_); (conv => whnf))
    refine CallK.fn (made_f s pathL path_37 hs) ?_
    (conv => whnf); repeat ((first | refine tk1 ?_ | refine tk2 ?_ | refine tk3 ?_ | refine tk12 (fun _ => ?_) | refine tk4 ?_ | refine tk5 ?_ | refine tk6 ?_ | refine tk7 ?_ | refine tk8 ?_ | refine tk9 ?_ | refine tk10 (fun _ _ => ?_) | refine tk11 (fun _ => ?_) | refine tk13 ?_ | refine tk14 ?_); (conv => whnf))
    unfold pathOf; rw [h]; rfl
def verV (s : List UInt8) : Int × Bool := match versionOf s with | some v => (v, true) | none => (0, false)
end Go.Proofs.YtnaeeklnlddcaaaDoor.Vex
/- The program's functions on first lines, reckoned: Parse, Write, Quote, Segments. -/
namespace Go.Proofs.YtnaeeklnlddcaaaDoor.Vex
open Go Go.RowKit
set_option maxRecDepth 100000
set_option linter.unusedSectionVars false
variable {gI : GI} [HasMax gI]

def rqV (r : Rq) : Value := .agg ⟨[str r.m, str r.p, str r.q, .int .i64 r.v, .slice none 0 0, .slice none 0 0]⟩
theorem Itoa_f [HasPow gI] (n : Int) (h0 : -9223372036854775808 ≤ n) (h1 : n ≤ 9223372036854775807) : Fn Tryd.prog gI 82 [.int .i64 n] (str (Lib.itoa n)) :=
  ⟨callable Tryd.func82 rfl (by kernel_rfl), fun w hG => (Tryd.strconv_Itoa n h0 h1 w (HasPow.ok w hG)).mono fun _ _ ⟨he, k, os, hw⟩ => ⟨he, by
    rw [hw]
    exact ⟨rfl, rfl, rfl, by simp [«Sort».grow, World.drewN], fun i hi => by
      show (w.heap ++ os)[i]? = w.heap[i]?
      exact Array.getElem?_append_left hi⟩⟩⟩
theorem itoa_01 {v : Int} (h : v = 0 ∨ v = 1) : Lib.itoa v = if v = 0 then [48] else [49] := by rcases h with rfl | rfl <;> decide +kernel
end Go.Proofs.YtnaeeklnlddcaaaDoor.Vex
/- line.Quote, line.unquoted, line.Segments, reckoned. -/
namespace Go.Proofs.YtnaeeklnlddcaaaDoor.Vex
open Go Go.RowKit
set_option maxRecDepth 100000
set_option linter.unusedSectionVars false
variable {gI : GI} [HasMax gI] [HasErr gI]

theorem made_cut : ∀ (n : Nat) (a b : List UInt8), a.length ≤ n → madeOf pathL (a ++ 47 :: b) = true → madeOf pathL a = true ∧ madeOf pathL b = true
  | _, [], b, _, h => by
    rcases made_x pathL path_37 47 b h with ⟨_, _, h2⟩ | ⟨_, _, _, h, _⟩
    · exact ⟨rfl, h2⟩
    · cases h
  | 0, x :: r, _, hl, _ => by simp at hl
  | n + 1, x :: r, b, hl, h => by
    rcases made_x pathL path_37 x (r ++ 47 :: b) h with ⟨hx, h1, h2⟩ | ⟨p, q, t, rfl, hr, h1, h2, h3⟩
    · have ih := made_cut n r b (by simpa using hl) h2
      rw [made_cons pathL x _ hx, h1, ih.1]
      exact ⟨rfl, ih.2⟩
    · match r with
      | [] =>
        cases hr
        exact absurd h1 (by decide)
      | [y] =>
        cases hr
        exact absurd h2 (by decide)
      | y :: z :: r =>
        cases hr
        have ih := made_cut n r b (by simp at hl; omega) h3
        rw [made_37 pathL path_37]
        simp [h1, h2, ih.1, ih.2]
theorem quoteB_le (x : UInt8) : (quoteB x).length ≤ 3 := by unfold quoteB; split <;> simp
theorem quote_le (l : List UInt8) : (quoteOf l).length ≤ 3 * l.length := by
  induction l with
  | nil => simp [quoteOf]
  | cons x r ih =>
    have := quoteB_le x
    simp only [quoteOf, List.flatMap_cons, List.length_append, List.length_cons] at ih ⊢
    omega
theorem quote_take (s : List UInt8) (k : Nat) (h : k < s.length) : quoteOf (s.take (k + 1)) = quoteOf (s.take k) ++ quoteB s[k] := by
  unfold quoteOf
  rw [List.take_succ_eq_append_getElem h, List.flatMap_append]
  simp
def hexT : List UInt8 := [48, 49, 50, 51, 52, 53, 54, 55, 56, 57, 65, 66, 67, 68, 69, 70]
theorem hexT_at (n : Nat) (h : n < 16) : hexT[n]? = some (hexD n) := by
  have : ∀ n : Fin 16, hexT[n.val]? = some (hexD n.val) := by decide
  exact this ⟨n, h⟩
theorem and_15 (x : UInt8) : ((x.toNat % 16 : Nat) : Int) = bits .and .u8 x.toNat 15 := by
  have : ∀ n : Fin 256, ((n.val % 16 : Nat) : Int) = bits .and .u8 n.val 15 := by decide +kernel
  exact this ⟨x.toNat, x.toNat_lt⟩
theorem unq_f (s : List UInt8) (hs : s.length ≤ 1000000000) (hm : madeOf pathL s = true) : Fn Tryd.prog gI 23 [str s] (str (unq s)) := by
  refine Fn.of tys_ok Tryd.func23 rfl (by kernel_rfl) rfl rfl ?_; intro w hG
  (conv => whnf); repeat ((first | refine tk1 ?_ | refine tk2 ?_ | refine tk3 ?_ | refine tk12 (fun _ => ?_) | refine tk4 ?_ | refine tk5 ?_ | refine tk6 ?_ | refine tk7 ?_ | refine tk8 ?_ | refine tk9 ?_ | refine tk10 (fun _ _ => ?_) | refine tk11 (fun _ => ?_) | refine tk13 ?_ | refine tk14 ?_); (conv => whnf))
  refine LoopS.nilRow 5 1 ?_
  refine LoopS.lp tys_ok (fun (x : List UInt8 × List UInt8 × Option Addr × Nat) u => [str x.1, u 1, u 2, .slice x.2.2.1 x.2.1.length x.2.2.2, u 4, u 5, u 6, u 7, u 8, u 9, u 10, u 11, u 12, u 13, u 14, u 15, u 16, u 17, u 18, u 19, u 20, u 21, u 22, u 23, u 24, u 25, u 26, u 27])
    (fun x => [.row (.slice x.2.2.1 x.2.1.length x.2.2.2) 5 1 x.2.1.length (x.2.1.map byteV)])
    (fun x => x.2.1 ++ unq x.1 = unq s ∧ madeOf pathL x.1 = true ∧ x.2.1.length + x.1.length ≤ s.length) (fun x => x.1.length) (s, [], none, 0) ⟨rfl, hm, by simp⟩ rfl (by repeat' (first | exact List.Sublist.refl _ | exact List.nil_sublist _ | apply List.Sublist.cons_cons | apply List.Sublist.cons)) ?_
  rintro ⟨r, out, A, cp⟩ u ⟨hI, hr, hz⟩
  dsimp only at hI hr hz ⊢
  match r with
  | [] =>
    (conv => whnf); repeat ((first | refine tk1 ?_ | refine tk2 ?_ | refine tk3 ?_ | refine tk12 (fun _ => ?_) | refine tk4 ?_ | refine tk5 ?_ | refine tk6 ?_ | refine tk7 ?_ | refine tk8 ?_ | refine tk9 ?_ | refine tk10 (fun _ _ => ?_) | refine tk11 (fun _ => ?_) | refine tk13 ?_ | refine tk14 ?_); (conv => whnf))
    refine B2S.tc rfl rfl ?_
    (conv => whnf); repeat ((first | refine tk1 ?_ | refine tk2 ?_ | refine tk3 ?_ | refine tk12 (fun _ => ?_) | refine tk4 ?_ | refine tk5 ?_ | refine tk6 ?_ | refine tk7 ?_ | refine tk8 ?_ | refine tk9 ?_ | refine tk10 (fun _ _ => ?_) | refine tk11 (fun _ => ?_) | refine tk13 ?_ | refine tk14 ?_); (conv => whnf))
    rw [← hI]; simp [unq]
  | x :: t =>
    simp only [List.length_cons] at hz
    have hl : (((x :: t).length : Nat) : Int) = (t.length : Int) + 1 := by simp
    (conv => whnf); repeat ((first | refine tk1 ?_ | refine tk2 ?_ | refine tk3 ?_ | refine tk12 (fun _ => ?_) | refine tk4 ?_ | refine tk5 ?_ | refine tk6 ?_ | refine tk7 ?_ | refine tk8 ?_ | refine tk9 ?_ | refine tk10 (fun _ _ => ?_) | refine tk11 (fun _ => ?_) | refine tk13 ?_ | refine tk14 ?_); (conv => whnf))
    refine IdxS.at x rfl (by omega) ?_
    (conv => whnf); repeat ((first | refine tk1 ?_ | refine tk2 ?_ | refine tk3 ?_ | refine tk12 (fun _ => ?_) | refine tk4 ?_ | refine tk5 ?_ | refine tk6 ?_ | refine tk7 ?_ | refine tk8 ?_ | refine tk9 ?_ | refine tk10 (fun _ _ => ?_) | refine tk11 (fun _ => ?_) | refine tk13 ?_ | refine tk14 ?_); (conv => whnf))
    rcases made_x pathL path_37 x t hr with ⟨h37, _, h2⟩ | ⟨a, b, q, rfl, rfl, ha, hb, hq⟩
    · rw [unq_cons x t h37] at hI
      have hx : ¬ (x.toNat : Int) = 37 := fun e => h37 (b8 (n := 37) (by decide) (by omega))
      (conv => whnf); repeat ((first | refine tk1 ?_ | refine tk2 ?_ | refine tk3 ?_ | refine tk12 (fun _ => ?_) | refine tk4 ?_ | refine tk5 ?_ | refine tk6 ?_ | refine tk7 ?_ | refine tk8 ?_ | refine tk9 ?_ | refine tk10 (fun _ _ => ?_) | refine tk11 (fun _ => ?_) | refine tk13 ?_ | refine tk14 ?_); (conv => whnf))
      refine DrawS.go [(0, true), (1, true), (4, true), (5, true), (6, true), (2, false), (3, false), (7, true), (8, true)] tys_ok mixed (by kernel_rfl) ?_
      (conv => whnf); repeat ((first | refine tk1 ?_ | refine tk2 ?_ | refine tk3 ?_ | refine tk12 (fun _ => ?_) | refine tk4 ?_ | refine tk5 ?_ | refine tk6 ?_ | refine tk7 ?_ | refine tk8 ?_ | refine tk9 ?_ | refine tk10 (fun _ _ => ?_) | refine tk11 (fun _ => ?_) | refine tk13 ?_ | refine tk14 ?_); (conv => whnf))
      refine SlcS.at (by omega) (by rw [hl]; omega) (by omega) ?_
      rw [show ((x :: t).take ((x :: t).length : Int).toNat).drop (1 : Int).toNat = t by rw [Int.toNat_natCast, List.take_length]; rfl]
      (conv => whnf); repeat ((first | refine tk1 ?_ | refine tk2 ?_ | refine tk3 ?_ | refine tk12 (fun _ => ?_) | refine tk4 ?_ | refine tk5 ?_ | refine tk6 ?_ | refine tk7 ?_ | refine tk8 ?_ | refine tk9 ?_ | refine tk10 (fun _ _ => ?_) | refine tk11 (fun _ => ?_) | refine tk13 ?_ | refine tk14 ?_); (conv => whnf))
      refine AppS.tc SrcK.tc rfl (by simp [Value.oneCell']) (by decide) (by omega) (by omega) (zs := (out ++ [x]).map byteV) (by simp [byteV]) (fun A' cp' => ?_)
      rw [show out.length + 1 = (out ++ [x]).length by simp]
      (conv => whnf); repeat ((first | refine tk1 ?_ | refine tk2 ?_ | refine tk3 ?_ | refine tk12 (fun _ => ?_) | refine tk4 ?_ | refine tk5 ?_ | refine tk6 ?_ | refine tk7 ?_ | refine tk8 ?_ | refine tk9 ?_ | refine tk10 (fun _ _ => ?_) | refine tk11 (fun _ => ?_) | refine tk13 ?_ | refine tk14 ?_); (conv => whnf))
      exact ⟨(t, out ++ [x], A', cp'), ⟨by rw [← hI]; simp, h2, by simp; omega⟩, rfl, (by repeat' (first | exact List.Sublist.refl _ | exact List.nil_sublist _ | apply List.Sublist.cons_cons | apply List.Sublist.cons)), by dsimp only; simp⟩
    · rw [unq_37 a b q ha hb] at hI
      have hc : codeV (a :: b :: q) = (hexV a b, true) := by simp only [codeV, ha, hb]; rfl
      have hcf := code_f (gI := gI) (a :: b :: q) (by simp at hz ⊢; omega)
      rw [hc] at hcf
      simp only [List.length_cons] at hz
      (conv => whnf); repeat ((first | refine tk1 ?_ | refine tk2 ?_ | refine tk3 ?_ | refine tk12 (fun _ => ?_) | refine tk4 ?_ | refine tk5 ?_ | refine tk6 ?_ | refine tk7 ?_ | refine tk8 ?_ | refine tk9 ?_ | refine tk10 (fun _ _ => ?_) | refine tk11 (fun _ => ?_) | refine tk13 ?_ | refine tk14 ?_); (conv => whnf))
      refine SlcS.at (by omega) (by rw [hl]; omega) (by omega) ?_
      rw [show ((37 :: a :: b :: q).take ((37 :: a :: b :: q).length : Int).toNat).drop (1 : Int).toNat = a :: b :: q by rw [Int.toNat_natCast, List.take_length]; rfl]
      (conv => whnf); repeat ((first | refine tk1 ?_ | refine tk2 ?_ | refine tk3 ?_ | refine tk12 (fun _ => ?_) | refine tk4 ?_ | refine tk5 ?_ | refine tk6 ?_ | refine tk7 ?_ | refine tk8 ?_ | refine tk9 ?_ | refine tk10 (fun _ _ => ?_) | refine tk11 (fun _ => ?_) | refine tk13 ?_ | refine tk14 ?_); (conv => whnf))
      refine CallK.fn hcf ?_
      (conv => whnf); repeat ((first | refine tk1 ?_ | refine tk2 ?_ | refine tk3 ?_ | refine tk12 (fun _ => ?_) | refine tk4 ?_ | refine tk5 ?_ | refine tk6 ?_ | refine tk7 ?_ | refine tk8 ?_ | refine tk9 ?_ | refine tk10 (fun _ _ => ?_) | refine tk11 (fun _ => ?_) | refine tk13 ?_ | refine tk14 ?_); (conv => whnf))
      refine DrawS.go [(0, true), (1, true), (4, true), (5, true), (6, true), (2, false), (3, false), (7, true), (8, true)] tys_ok mixed (by kernel_rfl) ?_
      (conv => whnf); repeat ((first | refine tk1 ?_ | refine tk2 ?_ | refine tk3 ?_ | refine tk12 (fun _ => ?_) | refine tk4 ?_ | refine tk5 ?_ | refine tk6 ?_ | refine tk7 ?_ | refine tk8 ?_ | refine tk9 ?_ | refine tk10 (fun _ _ => ?_) | refine tk11 (fun _ => ?_) | refine tk13 ?_ | refine tk14 ?_); (conv => whnf))
      refine SlcS.at (by omega) (by rw [hl]; simp; omega) (by omega) ?_
      rw [show ((37 :: a :: b :: q).take ((37 :: a :: b :: q).length : Int).toNat).drop (3 : Int).toNat = q by rw [Int.toNat_natCast, List.take_length]; rfl]
      (conv => whnf); repeat ((first | refine tk1 ?_ | refine tk2 ?_ | refine tk3 ?_ | refine tk12 (fun _ => ?_) | refine tk4 ?_ | refine tk5 ?_ | refine tk6 ?_ | refine tk7 ?_ | refine tk8 ?_ | refine tk9 ?_ | refine tk10 (fun _ _ => ?_) | refine tk11 (fun _ => ?_) | refine tk13 ?_ | refine tk14 ?_); (conv => whnf))
      refine AppS.tc SrcK.tc rfl (by simp [Value.oneCell']) (by decide) (by omega) (by omega) (zs := (out ++ [hexV a b]).map byteV) (by simp [byteV]) (fun A' cp' => ?_)
      rw [show out.length + 1 = (out ++ [hexV a b]).length by simp]
      (conv => whnf); repeat ((first | refine tk1 ?_ | refine tk2 ?_ | refine tk3 ?_ | refine tk12 (fun _ => ?_) | refine tk4 ?_ | refine tk5 ?_ | refine tk6 ?_ | refine tk7 ?_ | refine tk8 ?_ | refine tk9 ?_ | refine tk10 (fun _ _ => ?_) | refine tk11 (fun _ => ?_) | refine tk13 ?_ | refine tk14 ?_); (conv => whnf))
      exact ⟨(q, out ++ [hexV a b], A', cp'), ⟨by rw [← hI]; simp, hq, by simp; omega⟩, rfl, (by repeat' (first | exact List.Sublist.refl _ | exact List.nil_sublist _ | apply List.Sublist.cons_cons | apply List.Sublist.cons)), by dsimp only; simp; omega⟩
def segPost (s : List UInt8) (w : World) (v : Value) (w' : World) : Prop := ∃ u, v = .tuple #[u, .int .i64 (segE s)] ∧ rowPost 9 1 (segO s).length ((segO s).map str) w u w'
theorem Segments_f (s : List UInt8) (hs : s.length ≤ 1000000000) : FnE Tryd.prog gI 12 [str s] (fun _ => True) (segPost s) := by
  refine FnE.ofX tys_ok Tryd.func12 rfl (by kernel_rfl) rfl rfl ?_; intro w hG hP
  (conv => whnf); repeat ((first | refine tk1 ?_ | refine tk2 ?_ | refine tk3 ?_ | refine tk12 (fun _ => ?_) | refine tk4 ?_ | refine tk5 ?_ | refine tk6 ?_ | refine tk7 ?_ | refine tk8 ?_ | refine tk9 ?_ | refine tk10 (fun _ _ => ?_) | refine tk11 (fun _ => ?_) | refine tk13 ?_ | refine tk14 ?_); (conv => whnf))
  refine CallK.fn (Path_f s (by omega)) ?_
  cases hp : pathOf s
  · have e1 : segO s = [] := by unfold segO; rw [hp]; rfl
    have e2 : segE s = 3 := by unfold segE; rw [hp]; rfl
    unfold segPost
    rw [e1, e2]
    (conv => whnf); repeat ((first | refine tk1 ?_ | refine tk2 ?_ | refine tk3 ?_ | refine tk12 (fun _ => ?_) | refine tk4 ?_ | refine tk5 ?_ | refine tk6 ?_ | refine tk7 ?_ | refine tk8 ?_ | refine tk9 ?_ | refine tk10 (fun _ _ => ?_) | refine tk11 (fun _ => ?_) | refine tk13 ?_ | refine tk14 ?_); (conv => whnf))
    exact fun w' hs => ⟨_, rfl, rowPost.nil _ _ w' hs⟩
  have e1 : segO s = segs s := by unfold segO; rw [hp]; rfl
  have e2 : segE s = 0 := by unfold segE; rw [hp]; rfl
  obtain ⟨l, rfl⟩ := path_head hp
  have hm : madeOf pathL l = true := by
    unfold pathOf at hp
    rw [Bool.and_eq_true] at hp
    rcases made_x pathL path_37 47 l hp.2 with ⟨_, _, h2⟩ | ⟨_, _, _, h, _⟩
    · exact h2
    · cases h
  have e3 : segs (47 :: l) = (splitB 47 l).map unq := rfl
  unfold segPost
  rw [e1, e2, e3]
  simp only [List.length_cons] at hs
  have hl : (((47 :: l).length : Nat) : Int) = (l.length : Int) + 1 := by simp
  (conv => whnf); repeat ((first | refine tk1 ?_ | refine tk2 ?_ | refine tk3 ?_ | refine tk12 (fun _ => ?_) | refine tk4 ?_ | refine tk5 ?_ | refine tk6 ?_ | refine tk7 ?_ | refine tk8 ?_ | refine tk9 ?_ | refine tk10 (fun _ _ => ?_) | refine tk11 (fun _ => ?_) | refine tk13 ?_ | refine tk14 ?_); (conv => whnf))
  refine SlcS.at (by omega) (by rw [hl]; omega) (by omega) ?_
  rw [show ((47 :: l).take ((47 :: l).length : Int).toNat).drop (1 : Int).toNat = l by rw [Int.toNat_natCast, List.take_length]; rfl]
  (conv => whnf); repeat ((first | refine tk1 ?_ | refine tk2 ?_ | refine tk3 ?_ | refine tk12 (fun _ => ?_) | refine tk4 ?_ | refine tk5 ?_ | refine tk6 ?_ | refine tk7 ?_ | refine tk8 ?_ | refine tk9 ?_ | refine tk10 (fun _ _ => ?_) | refine tk11 (fun _ => ?_) | refine tk13 ?_ | refine tk14 ?_); (conv => whnf))
  refine CallK.inl tys_ok Tryd.func22 rfl (by kernel_rfl) rfl rfl ?_
  (conv => whnf); repeat ((first | refine tk1 ?_ | refine tk2 ?_ | refine tk3 ?_ | refine tk12 (fun _ => ?_) | refine tk4 ?_ | refine tk5 ?_ | refine tk6 ?_ | refine tk7 ?_ | refine tk8 ?_ | refine tk9 ?_ | refine tk10 (fun _ _ => ?_) | refine tk11 (fun _ => ?_) | refine tk13 ?_ | refine tk14 ?_); (conv => whnf))
  refine CallK.inl tys_ok Tryd.func30 rfl (by kernel_rfl) rfl rfl ?_
  (conv => whnf); repeat ((first | refine tk1 ?_ | refine tk2 ?_ | refine tk3 ?_ | refine tk12 (fun _ => ?_) | refine tk4 ?_ | refine tk5 ?_ | refine tk6 ?_ | refine tk7 ?_ | refine tk8 ?_ | refine tk9 ?_ | refine tk10 (fun _ _ => ?_) | refine tk11 (fun _ => ?_) | refine tk13 ?_ | refine tk14 ?_); (conv => whnf))
  rename_i bo bs bp bk
  refine RngS.go tys_ok rfl Tryd.func39 rfl (by kernel_rfl) ?_
  intro fno D
  generalize hR : ready fno _ _ _ _ D = R
  have yl : ∀ (p r : List UInt8) (out : List (List UInt8)) (A : Option Addr) (cp : Nat) (K : Value → Hp → Prop), p.length ≤ 1000000000 → madeOf pathL p = true → out.length ≤ 5000000000 →
      (∀ A' cp', K (.bool true) [.obj (D + 1) (.loop R), .row (.slice A' (out ++ [unq p]).length cp') 9 1 (out ++ [unq p]).length ((out ++ [unq p]).map str), .obj D (.deferred (some [])), .box bk [.int .i64 0] 3, .box bp [str [47]] 9, .box bs [str r] 9, .box bo [.slice A' (out ++ [unq p]).length cp'] 40]) →
      YldK (mkC Tryd.prog gI w hG) (D + 1) [str p] [.obj (D + 1) (.loop R), .row (.slice A out.length cp) 9 1 out.length (out.map str), .obj D (.deferred (some [])), .box bk [.int .i64 0] 3, .box bp [str [47]] 9, .box bs [str r] 9, .box bo [.slice A out.length cp] 40] K := by
    intro p r out A cp K hz hmp hn hk
    subst hR
    refine YldK.run tys_ok .here rfl rfl rfl rfl ?_
    (conv => whnf); repeat ((first | refine tk1 ?_ | refine tk2 ?_ | refine tk3 ?_ | refine tk12 (fun _ => ?_) | refine tk4 ?_ | refine tk5 ?_ | refine tk6 ?_ | refine tk7 ?_ | refine tk8 ?_ | refine tk9 ?_ | refine tk10 (fun _ _ => ?_) | refine tk11 (fun _ => ?_) | refine tk13 ?_ | refine tk14 ?_); (conv => whnf))
    refine ⟨List.Perm.refl _, ?_⟩
    (conv => whnf); repeat ((first | refine tk1 ?_ | refine tk2 ?_ | refine tk3 ?_ | refine tk12 (fun _ => ?_) | refine tk4 ?_ | refine tk5 ?_ | refine tk6 ?_ | refine tk7 ?_ | refine tk8 ?_ | refine tk9 ?_ | refine tk10 (fun _ _ => ?_) | refine tk11 (fun _ => ?_) | refine tk13 ?_ | refine tk14 ?_); (conv => whnf))
    refine DrawS.go [(0, true), (1, true), (2, true), (3, false), (4, false), (5, false)] tys_ok mixed (by kernel_rfl) ?_
    (conv => whnf); repeat ((first | refine tk1 ?_ | refine tk2 ?_ | refine tk3 ?_ | refine tk12 (fun _ => ?_) | refine tk4 ?_ | refine tk5 ?_ | refine tk6 ?_ | refine tk7 ?_ | refine tk8 ?_ | refine tk9 ?_ | refine tk10 (fun _ _ => ?_) | refine tk11 (fun _ => ?_) | refine tk13 ?_ | refine tk14 ?_); (conv => whnf))
    refine CallQ.fn (unq_f p (by omega) hmp) ?_
    (conv => whnf); repeat ((first | refine tk1 ?_ | refine tk2 ?_ | refine tk3 ?_ | refine tk12 (fun _ => ?_) | refine tk4 ?_ | refine tk5 ?_ | refine tk6 ?_ | refine tk7 ?_ | refine tk8 ?_ | refine tk9 ?_ | refine tk10 (fun _ _ => ?_) | refine tk11 (fun _ => ?_) | refine tk13 ?_ | refine tk14 ?_); (conv => whnf))
    refine AppS.tc SrcK.tc rfl (by simp [Value.oneCell']) (by decide) (by omega) (by omega) (zs := (out ++ [unq p]).map str) (by simp) (fun A' cp' => ?_)
    (conv => whnf); repeat ((first | refine tk1 ?_ | refine tk2 ?_ | refine tk3 ?_ | refine tk12 (fun _ => ?_) | refine tk4 ?_ | refine tk5 ?_ | refine tk6 ?_ | refine tk7 ?_ | refine tk8 ?_ | refine tk9 ?_ | refine tk10 (fun _ _ => ?_) | refine tk11 (fun _ => ?_) | refine tk13 ?_ | refine tk14 ?_); (conv => whnf))
    have := hk A' cp'
    rw [List.length_append] at this
    exact ⟨_, _, (by first | exact Pick.here | exact Pick.here.skip | exact Pick.here.skip.skip | exact Pick.here.skip.skip.skip | exact Pick.here.skip.skip.skip.skip | exact Pick.here.skip.skip.skip.skip.skip | exact Pick.here.skip.skip.skip.skip.skip.skip | exact Pick.here.skip.skip.skip.skip.skip.skip.skip | exact Pick.here.skip.skip.skip.skip.skip.skip.skip.skip | exact Pick.here.skip.skip.skip.skip.skip.skip.skip.skip.skip | exact Pick.here.skip.skip.skip.skip.skip.skip.skip.skip.skip.skip | exact Pick.here.skip.skip.skip.skip.skip.skip.skip.skip.skip.skip.skip), (by repeat' (first | exact List.Sublist.refl _ | exact List.nil_sublist _ | apply List.Sublist.cons_cons | apply List.Sublist.cons)), this⟩
  (conv => whnf); repeat ((first | refine tk1 ?_ | refine tk2 ?_ | refine tk3 ?_ | refine tk12 (fun _ => ?_) | refine tk4 ?_ | refine tk5 ?_ | refine tk6 ?_ | refine tk7 ?_ | refine tk8 ?_ | refine tk9 ?_ | refine tk10 (fun _ _ => ?_) | refine tk11 (fun _ => ?_) | refine tk13 ?_ | refine tk14 ?_); (conv => whnf))
  refine LoopS.nilRow 9 1 (LoopS.perm (List.Perm.swap ..) ?_)
  refine LoopS.lp tys_ok (fun (x : List UInt8 × List (List UInt8) × Option Addr × Nat) u => [.func (.yield (D + 1)) ⟨[]⟩ ⟨[]⟩, .pointer (some ⟨bp, 0, none⟩), .pointer (some ⟨bs, 0, none⟩), .pointer (some ⟨bk, 0, none⟩), u 4, u 5, u 6, u 7, u 8, u 9, u 10, u 11, u 12, u 13, u 14, u 15, u 16, u 17, u 18, u 19, u 20, u 21, u 22, u 23, u 24, u 25, u 26, u 27, u 28, u 29, u 30, u 31, u 32, u 33, u 34, u 35, u 36, u 37, u 38, u 39, u 40, u 41, u 42, u 43, u 44, u 45, u 46, u 47, u 48, u 49, u 50, u 51])
    (fun x => [.obj (D + 1) (.loop R), .row (.slice x.2.2.1 x.2.1.length x.2.2.2) 9 1 x.2.1.length (x.2.1.map str), .obj D (.deferred (some [])), .box bk [.int .i64 0] 3, .box bp [str [47]] 9, .box bs [str x.1] 9, .box bo [.slice x.2.2.1 x.2.1.length x.2.2.2] 40])
    (fun x => x.2.1 ++ (splitB 47 x.1).map unq = (splitB 47 l).map unq ∧ x.1.length ≤ l.length ∧ madeOf pathL x.1 = true) (fun x => x.1.length) (l, [], none, 0) ⟨rfl, Nat.le_refl _, hm⟩ rfl (by repeat' (first | exact List.Sublist.refl _ | exact List.nil_sublist _ | apply List.Sublist.cons_cons | apply List.Sublist.cons)) ?_
  rintro ⟨r, out, A, cp⟩ u ⟨hI, hz, hmr⟩
  dsimp only at hI hz hmr ⊢
  have hn : out.length ≤ l.length + 1 := by
    have := splitB_length 47 l
    have h2 := congrArg List.length hI
    simp only [List.length_append, List.length_map] at h2
    omega
  (conv => whnf); repeat ((first | refine tk1 ?_ | refine tk2 ?_ | refine tk3 ?_ | refine tk12 (fun _ => ?_) | refine tk4 ?_ | refine tk5 ?_ | refine tk6 ?_ | refine tk7 ?_ | refine tk8 ?_ | refine tk9 ?_ | refine tk10 (fun _ _ => ?_) | refine tk11 (fun _ => ?_) | refine tk13 ?_ | refine tk14 ?_); (conv => whnf))
  refine CallK.fn (Index_f r [47] (by omega)) ?_
  rcases index_one 47 r with ⟨h1, h2⟩ | ⟨k, h1, h2, h3, h4⟩
  · rw [h1]
    (conv => whnf); repeat ((first | refine tk1 ?_ | refine tk2 ?_ | refine tk3 ?_ | refine tk12 (fun _ => ?_) | refine tk4 ?_ | refine tk5 ?_ | refine tk6 ?_ | refine tk7 ?_ | refine tk8 ?_ | refine tk9 ?_ | refine tk10 (fun _ _ => ?_) | refine tk11 (fun _ => ?_) | refine tk13 ?_ | refine tk14 ?_); (conv => whnf))
    refine yl r r out A cp _ (by omega) hmr (by omega) (fun A' cp' => ?_)
    have hf : out ++ [unq r] = (splitB 47 l).map unq := by rw [← hI, splitB_none 47 r h2]; rfl
    rw [hf]
    (conv => whnf); repeat ((first | refine tk1 ?_ | refine tk2 ?_ | refine tk3 ?_ | refine tk12 (fun _ => ?_) | refine tk4 ?_ | refine tk5 ?_ | refine tk6 ?_ | refine tk7 ?_ | refine tk8 ?_ | refine tk9 ?_ | refine tk10 (fun _ _ => ?_) | refine tk11 (fun _ => ?_) | refine tk13 ?_ | refine tk14 ?_); (conv => whnf))
    refine ⟨_, _, .here, ?_, ?_, ?_⟩
    · rw [← hR]; rfl
    · rw [← hR]; rfl
    (conv => whnf); repeat ((first | refine tk1 ?_ | refine tk2 ?_ | refine tk3 ?_ | refine tk12 (fun _ => ?_) | refine tk4 ?_ | refine tk5 ?_ | refine tk6 ?_ | refine tk7 ?_ | refine tk8 ?_ | refine tk9 ?_ | refine tk10 (fun _ _ => ?_) | refine tk11 (fun _ => ?_) | refine tk13 ?_ | refine tk14 ?_); (conv => whnf))
    refine ⟨_, _, rfl, (by first | exact Pick.here | exact Pick.here.skip | exact Pick.here.skip.skip | exact Pick.here.skip.skip.skip | exact Pick.here.skip.skip.skip.skip | exact Pick.here.skip.skip.skip.skip.skip | exact Pick.here.skip.skip.skip.skip.skip.skip | exact Pick.here.skip.skip.skip.skip.skip.skip.skip | exact Pick.here.skip.skip.skip.skip.skip.skip.skip.skip | exact Pick.here.skip.skip.skip.skip.skip.skip.skip.skip.skip | exact Pick.here.skip.skip.skip.skip.skip.skip.skip.skip.skip.skip | exact Pick.here.skip.skip.skip.skip.skip.skip.skip.skip.skip.skip.skip), ?_⟩
    (conv => whnf); repeat ((first | refine tk1 ?_ | refine tk2 ?_ | refine tk3 ?_ | refine tk12 (fun _ => ?_) | refine tk4 ?_ | refine tk5 ?_ | refine tk6 ?_ | refine tk7 ?_ | refine tk8 ?_ | refine tk9 ?_ | refine tk10 (fun _ _ => ?_) | refine tk11 (fun _ => ?_) | refine tk13 ?_ | refine tk14 ?_); (conv => whnf))
    exact fun w' hs => ⟨_, rfl, rowPost.of (by simp) w' hs⟩
  · rw [h1]
    have hr : r = r.take k ++ 47 :: r.drop (k + 1) := by
      have h5 := List.take_append_drop k r
      rw [List.drop_eq_getElem_cons h2] at h5
      rw [List.getElem?_eq_getElem h2] at h4
      rw [Option.some.inj h4] at h5
      exact h5.symm
    have hmc := made_cut (r.take k).length (r.take k) (r.drop (k + 1)) (Nat.le_refl _) (by rw [← hr]; exact hmr)
    (conv => whnf); repeat ((first | refine tk1 ?_ | refine tk2 ?_ | refine tk3 ?_ | refine tk12 (fun _ => ?_) | refine tk4 ?_ | refine tk5 ?_ | refine tk6 ?_ | refine tk7 ?_ | refine tk8 ?_ | refine tk9 ?_ | refine tk10 (fun _ _ => ?_) | refine tk11 (fun _ => ?_) | refine tk13 ?_ | refine tk14 ?_); (conv => whnf))
    refine SlcS.at (by omega) (by omega) (by omega) ?_
    (conv => whnf); repeat ((first | refine tk1 ?_ | refine tk2 ?_ | refine tk3 ?_ | refine tk12 (fun _ => ?_) | refine tk4 ?_ | refine tk5 ?_ | refine tk6 ?_ | refine tk7 ?_ | refine tk8 ?_ | refine tk9 ?_ | refine tk10 (fun _ _ => ?_) | refine tk11 (fun _ => ?_) | refine tk13 ?_ | refine tk14 ?_); (conv => whnf))
    rw [show (List.take ((k : Int) + 0).toNat r).drop (0 : Int).toNat = r.take k by simp]
    refine yl (r.take k) r out A cp _ (by rw [List.length_take]; omega) hmc.1 (by omega) (fun A' cp' => ?_)
    (conv => whnf); repeat ((first | refine tk1 ?_ | refine tk2 ?_ | refine tk3 ?_ | refine tk12 (fun _ => ?_) | refine tk4 ?_ | refine tk5 ?_ | refine tk6 ?_ | refine tk7 ?_ | refine tk8 ?_ | refine tk9 ?_ | refine tk10 (fun _ _ => ?_) | refine tk11 (fun _ => ?_) | refine tk13 ?_ | refine tk14 ?_); (conv => whnf))
    refine slc ?_
    (conv => whnf); repeat ((first | refine tk1 ?_ | refine tk2 ?_ | refine tk3 ?_ | refine tk12 (fun _ => ?_) | refine tk4 ?_ | refine tk5 ?_ | refine tk6 ?_ | refine tk7 ?_ | refine tk8 ?_ | refine tk9 ?_ | refine tk10 (fun _ _ => ?_) | refine tk11 (fun _ => ?_) | refine tk13 ?_ | refine tk14 ?_); (conv => whnf))
    refine ⟨(r.drop (k + 1), out ++ [unq (r.take k)], A', cp'), ⟨?_, by dsimp only; rw [List.length_drop]; omega, hmc.2⟩, rfl, ?_, by dsimp only; rw [List.length_drop]; omega⟩
    · dsimp only
      rw [List.append_assoc, ← hI, splitB_at 47 r k h3 h4]
      rfl
    · dsimp only
      rw [show (List.take (r.length : Int).toNat r).drop ((k : Int) + (([47] : List UInt8).length : Nat)).toNat = r.drop (k + 1) by rw [Int.toNat_natCast, List.take_length]; congr 1]
      exact List.Sublist.refl _
end Go.Proofs.YtnaeeklnlddcaaaDoor.Vex
/- Plain definitions on sizes of bodies: numbers, lengths, codings. No program in sight. -/
namespace Go.Proofs.YtnaeeklnlddcaaaDoor

def digitsL : List UInt8 := [48, 49, 50, 51, 52, 53, 54, 55, 56, 57]
def digB (x : UInt8) : Bool := decide (48 ≤ x.toNat) && decide (x.toNat ≤ 57)
def numStep (n : Nat) (x : UInt8) : Nat := 10 * n + (x.toNat - 48)
def numF (n : Nat) (l : List UInt8) : Nat := l.foldl numStep n
def numV (l : List UInt8) : Nat := numF 0 l
def numOK (l : List UInt8) : Bool := decide (1 ≤ l.length) && (decide (l.length ≤ 9) && l.all digB)
def numN (l : List UInt8) : Int := if numOK l then (numV l : Int) else 0

theorem digit_is (x : UInt8) : digitsL.contains x = digB x := by
  have : ∀ n : Fin 256, digitsL.contains (UInt8.ofNat n.val) = digB (UInt8.ofNat n.val) := by decide +kernel
  have h := this ⟨x.toNat, x.toNat_lt⟩
  simpa using h
theorem dropWhile_nil (p : UInt8 → Bool) : ∀ l : List UInt8, l.dropWhile p = [] ↔ ∀ x ∈ l, p x = true
  | [] => by simp
  | a :: r => by
    rw [List.dropWhile_cons]
    cases h : p a
    · simp [h]
    · simp [h, dropWhile_nil p r]
theorem dropWhile_again (p : UInt8 → Bool) : ∀ l : List UInt8, (∀ x ∈ l.dropWhile p, p x = true) → l.dropWhile p = []
  | [], _ => rfl
  | a :: r, h => by
    rw [List.dropWhile_cons] at h ⊢
    cases hp : p a
    · rw [if_neg (by simp [hp])] at h
      have := h a (by simp)
      rw [hp] at this
      cases this
    · simp only [hp, if_true] at h ⊢
      exact dropWhile_again p r h
theorem trim_nil (c l : List UInt8) : Lib.trimS l c = [] ↔ ∀ x ∈ l, c.contains x = true := by
  unfold Lib.trimS Lib.trimLeftS Lib.trimRightS
  rw [dropWhile_nil]
  constructor
  · intro h
    have h1 := dropWhile_again (fun x => c.contains x) l.reverse (fun x hx => h x (List.mem_reverse.2 hx))
    rw [dropWhile_nil] at h1
    exact fun x hx => h1 x (List.mem_reverse.2 hx)
  · intro h x hx
    have h1 : (l.reverse.dropWhile fun x => c.contains x) = [] := (dropWhile_nil _ _).2 fun x hx => h x (List.mem_reverse.1 hx)
    rw [h1] at hx
    cases hx
theorem trim_digits (l : List UInt8) : Lib.trimS l digitsL = [] ↔ l.all digB = true := by
  rw [trim_nil, List.all_eq_true]
  exact ⟨fun h x hx => by rw [← digit_is]; exact h x hx, fun h x hx => by rw [digit_is]; exact h x hx⟩
theorem decFrom_all : ∀ (l : List UInt8) (n : Nat), l.all digB = true → Lib.decFrom n l = some (numF n l)
  | [], n, _ => rfl
  | x :: r, n, h => by
    simp only [List.all_cons, Bool.and_eq_true] at h
    have hx := h.1
    unfold digB at hx
    simp only [Bool.and_eq_true, decide_eq_true_eq] at hx
    unfold Lib.decFrom Lib.digitVal
    rw [if_pos hx]
    simp only
    rw [decFrom_all r _ h.2, Nat.mul_comm]
    rfl
theorem atoi_all (l : List UInt8) (h : l.all digB = true) (h0 : l ≠ []) : Lib.atoi l = some (numV l : Int) := by
  cases l with
  | nil => exact absurd rfl h0
  | cons x r =>
    have hx : digB x = true := by simp only [List.all_cons, Bool.and_eq_true] at h; exact h.1
    have n45 : (x == 45) = false := by
      rw [beq_eq_false_iff_ne]; rintro rfl; exact absurd hx (by decide)
    have n43 : (x == 43) = false := by
      rw [beq_eq_false_iff_ne]; rintro rfl; exact absurd hx (by decide)
    unfold Lib.atoi
    simp only [n45, n43, Bool.false_eq_true, if_false]
    unfold Lib.decNat
    rw [decFrom_all _ 0 h]
    rfl
theorem numF_lt : ∀ (l : List UInt8) (n : Nat), l.all digB = true → numF n l < (n + 1) * 10 ^ l.length
  | [], n, _ => by simp [numF]
  | x :: r, n, h => by
    simp only [List.all_cons, Bool.and_eq_true] at h
    have hx := h.1
    unfold digB at hx
    simp only [Bool.and_eq_true, decide_eq_true_eq] at hx
    have ih := numF_lt r (numStep n x) h.2
    have e : numF n (x :: r) = numF (numStep n x) r := rfl
    rw [e]
    refine Nat.lt_of_lt_of_le ih ?_
    rw [List.length_cons, Nat.pow_succ, Nat.mul_comm (10 ^ r.length) 10, ← Nat.mul_assoc]
    exact Nat.mul_le_mul_right _ (by unfold numStep; omega)
theorem numV_lt {l : List UInt8} (h : numOK l = true) : numV l < 1000000000 := by
  unfold numOK at h
  simp only [Bool.and_eq_true, decide_eq_true_eq] at h
  have h1 := numF_lt l 0 h.2.2
  have h2 : 10 ^ l.length ≤ 10 ^ 9 := Nat.pow_le_pow_right (by omega) h.2.1
  unfold numV
  omega
theorem numN_range (l : List UInt8) : 0 ≤ numN l ∧ numN l < 1000000000 := by
  unfold numN
  split
  · rename_i h
    have := numV_lt h
    omega
  · omega

/-! A body's size. -/
def hostN : List UInt8 := [104, 111, 115, 116]
def lenN : List UInt8 := [99, 111, 110, 116, 101, 110, 116, 45, 108, 101, 110, 103, 116, 104]
def codN : List UInt8 := [116, 114, 97, 110, 115, 102, 101, 114, 45, 101, 110, 99, 111, 100, 105, 110, 103]
def chunkedN : List UInt8 := [99, 104, 117, 110, 107, 101, 100]
def itemsAll (l : List (List UInt8)) : List (List UInt8) := l.flatMap itemsOf
/-- What lengths tell, from one that was told on (none: there was none). -/
def lenGo (x : Option Int) : List (List UInt8) → Int × Int × Int
  | [] => match x with | none => (0, 0, 400) | some n => (1, n, 200)
  | s :: r => if numOK s = true ∧ (x = none ∨ x = some (numN s)) then lenGo (some (numN s)) r else (0, 0, 400)
/-- Where a text stands first; below 0: nowhere. -/
def idxI (s : List UInt8) : List (List UInt8) → Int
  | [] => -1
  | x :: r => if s = x then 0 else (if idxI s r < 0 then -1 else idxI s r + 1)
def codS (v : Int) (long : Bool) (l : List (List UInt8)) : Int × Int × Int :=
  if v = 0 ∨ long = true ∨ idxI chunkedN (l.map smallOf) ≠ (l.length : Int) - 1 ∨ l = [] then (0, 0, 400) else if 1 < l.length then (0, 0, 501) else (2, 0, 200)
/-- A body's size, by a request's fields and version. -/
def sizeOf (F : List Vex.Fld) (v : Int) : Int × Int × Int :=
  if 1 < (Vex.allOf F hostN).length ∨ ((Vex.allOf F hostN).length = 0 ∧ v ≠ 0) then (0, 0, 400)
  else if Vex.allOf F codN ≠ [] then codS v (decide (Vex.allOf F lenN ≠ [])) (itemsAll (Vex.allOf F codN))
  else if Vex.allOf F lenN ≠ [] then lenGo none (itemsAll (Vex.allOf F lenN))
  else (0, 0, 200)
theorem idxI_range (s : List UInt8) : ∀ l : List (List UInt8), -1 ≤ idxI s l ∧ (idxI s l < (l.length : Int))
  | [] => by simp [idxI]
  | x :: r => by
    have h := idxI_range s r
    unfold idxI
    rw [List.length_cons]
    split
    · omega
    · split <;> omega
theorem lenGo_range : ∀ (l : List (List UInt8)) (x : Option Int), (∀ n, x = some n → 0 ≤ n ∧ n < 1000000000) → 0 ≤ (lenGo x l).2.1 ∧ (lenGo x l).2.1 < 1000000000
  | [], x, h => by
    unfold lenGo
    split
    · decide
    · rename_i n
      exact h n rfl
  | s :: r, x, h => by
    unfold lenGo
    split
    · exact lenGo_range r _ (fun n hn => by cases hn; exact numN_range s)
    · decide
theorem itemsAll_append (a b : List (List UInt8)) : itemsAll (a ++ b) = itemsAll a ++ itemsAll b := by
  unfold itemsAll
  rw [List.flatMap_append]
end Go.Proofs.YtnaeeklnlddcaaaDoor
/- A walk by reckoning, part eighteen: heaps with a tail of entries that are not told one by one. No program in sight. -/
namespace Go.Proofs.YtnaeeklnlddcaaaDoor.Vex
open Go Go.RowKit

/-- What meets one heap meets another one. -/
def Into (c : Ctx) (H G : Hp) : Prop := ∀ w, St c H w → St c G w
section
variable {c : Ctx} {H G H2 : Hp} {x : Ent} {w : World}
theorem Into.refl : Into c H H := fun _ h => h
theorem Into.trans {K : Hp} (h : Into c H G) (k : Into c G K) : Into c H K := fun w hw => k w (h w hw)
theorem Into.perm (h : H.Perm G) : Into c H G := fun _ hw => hw.perm h
theorem Into.sub (h : G.Sublist H) : Into c H G := fun _ hw => hw.sub h
theorem Into.nil : Into c H [] := Into.sub (List.nil_sublist _)
theorem Into.skip (h : Into c H G) : Into c (x :: H) G := (Into.sub (List.sublist_cons_self _ _)).trans h
theorem Into.left : Into c (H ++ G) H := Into.sub (List.sublist_append_left _ _)
theorem Into.right : Into c (H ++ G) G := Into.sub (List.sublist_append_right _ _)
theorem Into.nilRow {e sz : Nat} (h : Into c H G) : Into c H (.row (.slice none 0 0) e sz 0 [] :: G) := fun w hw => (h w hw).nilRow e sz
/-- An entry is kept beside what the others are turned into: the others' own memory alone is looked at. -/
def Cv (H G : Hp) : Prop := ∃ R, H.Perm (G ++ R)
theorem Cv.into (h : Cv H G) : Into c H G := fun _ hw => by
  obtain ⟨R, hR⟩ := h
  exact (hw.perm hR).sub (List.sublist_append_left _ _)
theorem Cv.cons (h : Pick H x H2) (k : Cv H2 G) : Cv H (x :: G) := by
  obtain ⟨R, hR⟩ := k
  exact ⟨R, h.perm.trans (hR.cons _)⟩
theorem Cv.refl : Cv H H := ⟨[], by rw [List.append_nil]⟩
theorem Cv.nil : Cv H [] := ⟨H, List.Perm.refl _⟩
theorem Cv.skip (h : Cv H G) : Cv (x :: H) G := by
  obtain ⟨R, hR⟩ := h
  exact ⟨x :: R, (hR.cons x).trans List.perm_middle.symm⟩
theorem Cv.trans {K : Hp} (h : Cv H G) (k : Cv G K) : Cv H K := by
  obtain ⟨R, hR⟩ := h
  obtain ⟨S, hS⟩ := k
  exact ⟨S ++ R, hR.trans ((hS.append_right R).trans (by rw [List.append_assoc]))⟩
theorem Cv.of (h : H.Perm G) : Cv H G := ⟨[], by rw [List.append_nil]; exact h⟩
theorem Cv.left : Cv (H ++ G) H := ⟨G, List.Perm.refl _⟩
theorem Cv.right : Cv (H ++ G) G := ⟨H, List.perm_append_comm⟩
/-- A loop whose heap may change its order. -/
noncomputable def lpTQ (c : Ctx) {β : Type} (F : β → (Nat → Value) → Fr) (G : β → Hp) (pre : β → Prop) (μ : β → Nat) (x : β) (Q : Exit → Fr → Hp → Prop) (e : Exit) (fr : Fr) (H : Hp) : Prop := match e with
  | .normal => ∃ x', pre x' ∧ fr = F x' (jk fr) ∧ Into c H (G x') ∧ μ x' < μ x
  | e => Q e fr H
theorem LoopS.lpT {T : Ty} {β : Type} {body : Code} {Q : Exit → Fr → Hp → Prop} {fr : Fr} (hT : TOk c.P T) (F : β → (Nat → Value) → Fr) (G : β → Hp) (pre : β → Prop) (μ : β → Nat) (x0 : β) (h0 : pre x0) (hF : fr = F x0 (jk fr)) (hG : Into c H (G x0))
    (round : ∀ x u, pre x → wc c T body (lpTQ c F G pre μ x Q) (F x u) (G x)) : LoopS c T body Q fr H := by
  refine ⟨fun ds w hw => wp_loop_ghost (fun n a w => ∃ x u, pre x ∧ a = actD ds (F x u) ∧ St c (G x) w ∧ μ x = n) (μ x0) ⟨x0, jk fr, h0, by rw [← hF], hG w hw, rfl⟩ ?_⟩
  rintro n a w ⟨x, u, hx, rfl, hs, rfl⟩
  refine Code.wp_mono (fun e a w ⟨fr, H, ha, hs, hq⟩ => ?_) (wc_ok hT ds body _ _ _ w (round x u hx) hs)
  cases e with
  | normal =>
    obtain ⟨x', hx', hF', hG', hlt⟩ := hq
    exact ⟨μ x', hlt, x', jk fr, hx', by rw [ha, ← hF'], hG' w hs, rfl⟩
  | _ => exact ⟨fr, H, ha, hs, hq⟩
theorem LoopS.into {T : Ty} {body : Code} {Q : Exit → Fr → Hp → Prop} {fr : Fr} (hc : Into c H G) (h : LoopS c T body Q fr G) : LoopS c T body Q fr H := ⟨fun ds w hw => h.ok ds w (hc w hw)⟩

/-- All orders of a region, one state behind them, in a heap whose entries may change their order. -/
theorem DrawS.joinI {T : Ty} {β : Type} {id : Nat} {ops : List Oper} {K : Fr → Hp → Prop} {fr : Fr} (F : β → (Nat → Value) → Fr) (G : β → Hp) (ws : List Nat) (t : DT) (hT : TOk c.P T) (hm : c.P.follows .mixedOrders = true) (hB : forkB T ws ops t = true)
    (h : wtree c T ws ops t (fun fr H => ∃ x, fr = F x (jk fr) ∧ Into c H (G x)) fr H) (k : ∀ x u, K (F x u) (G x)) : DrawS c T id ops K fr H :=
  DrawS.forkK ws t hT hm hB (fun fr' H' ⟨x, hF, hc⟩ => ⟨G x, hc, by rw [hF]; exact k x (jk fr')⟩) h

theorem tk13 {b o i j : Nat} {n : Option Nat} {K : Value → Prop} (h : Ld c H (.pointer (some ⟨b, o + (i + j), none⟩)) n K) : Ld c H (.pointer (some (((⟨b, o, none⟩ : Addr).add i).add j))) n K := by
  rw [add_add, Addr.add_lit]
  exact h
theorem tk14 {b o i j n : Nat} {v : Value} {K : Hp → Prop} (h : Sto c H (.pointer (some ⟨b, o + (i + j), none⟩)) v n K) : Sto c H (.pointer (some (((⟨b, o, none⟩ : Addr).add i).add j))) v n K := by
  rw [add_add, Addr.add_lit]
  exact h

theorem CallK.into {m : Bool} {f : Nat} {args : List Value} {K : Value → Hp → Prop} (hi : Into c H G) (h : CallK c m f args G K) : CallK c m f args H K := ⟨h.go.imp (fun h => ⟨h.1, fun w hw => h.2 w (hi w hw)⟩) fun h w hw => h w (hi w hw)⟩

/-! ## Tails -/
instance RdA.appL {T : Hp} {A : Option Addr} {xs : List Value} [h : RdA c H A xs] : RdA c (H ++ T) A xs where
  ok := h.ok.sub (List.sublist_append_left _ _)
instance RdA.appR {T : Hp} {A : Option Addr} {xs : List Value} [h : RdA c T A xs] : RdA c (H ++ T) A xs where
  ok := h.ok.sub (List.sublist_append_right _ _)
/-- New memory with a tail. -/
abbrev FnT (P : Program) (g : GI) (f : FuncId) (args : List Value) (pre : World → Prop) {X : Type} (V : X → Value) (Q : X → Prop) (Hd T : X → Hp) : Prop := FnE P g f args pre fun w v w' => ∃ x, v = V x ∧ Q x ∧ newH w w' (Hd x ++ T x)
theorem CallK.fnT {m : Bool} {f : Nat} {args : List Value} {pre : World → Prop} {X : Type} {V : X → Value} {Q : X → Prop} {Hd T : X → Hp} {K : Value → Hp → Prop} (h : FnT c.P c.g f args pre V Q Hd T) (hp : ∀ w, St c H w → pre w)
    (k : ∀ x, Q x → K (V x) (Hd x ++ (H ++ T x))) : CallK c m f args H K :=
  CallK.post (CallK.fnH (K := fun v H' => ∃ x, v = V x ∧ Q x ∧ H' = Hd x ++ T x) (⟨h.can, fun w hG hP => (h.ok w hG hP).mono fun e w' ⟨v, he, ⟨x, h1, h2, h3⟩, hR⟩ => ⟨v, he, ⟨_, ⟨x, h1, h2, rfl⟩, h3⟩, hR⟩⟩) hp (fun v H' ⟨x, h1, h2, h3⟩ =>
    ⟨Hd x ++ (H ++ T x), fun w hw => by
      subst h3
      refine hw.perm ?_
      rw [List.append_assoc]
      exact List.Perm.append_left _ List.perm_append_comm, by rw [h1]; exact k x h2⟩))
theorem newH.into {P : Program} {g : GI} {w w' : World} {hG : g.G w} {H H2 : Hp} (h : St (mkC P g w hG) H w') (hc : Into (mkC P g w hG) H H2) : newH w w' H2 := newH.of (hc w' h)

/-- A key's value is laid, in a literal. -/
theorem OthU.ins {α : Type} [DecidableEq α] {kv : α → Value} {d : TypeDesc} {T : Ty} {fr : Fr} {dst : Option Nat} {ty : TypeId} {pos : String} {after : Array Edge} {gd : Option (Nat × Bool)} {t kt et : TypeId} {x i y : Operand} {b : Nat} {k : α} {l l' : List (α × Value)} {f : Obj → Hp} {v : Value} {K : Value → Hp → Prop} (hk : KeyK d kv) (hT : TOk c.P T) [ho : ObjAt b H (mobj kv l) f]
    (hx : evK fr x fun v => v = .map (some b)) (hi : evK fr i fun v => v = kv k) (hy : evK fr y fun u => u = v) (ht : (lookT T t).d = .map kt et) (hkt : (lookT T kt).d = d) (hd : d ≠ .invalid) (hl' : mput k v l = l')
    (kk : K undef (f (mobj kv l'))) : OthU c ⟨dst, .insert t x i y, ty, pos, after, gd⟩ fr H K := ⟨fun w hw => by
  rw [evK_eq] at hx hi hy
  have hu := (lookT_ok hT (t := t) (by rw [ht]; intro h; cases h)).1
  have hku := (lookT_ok hT (t := kt) (by rw [hkt]; exact hd)).1
  rw [ht] at hu
  rw [hkt] at hku
  have hb : w.heap[b]? = some (.map ⟨mkEs kv 0 l⟩ l.length) := ho.holds hw
  refine ⟨_, _, ?_, ho.put hw (o' := mobj kv l'), kk⟩
  have hr := run_mapUpd (k := k) (v := v) hk hu hku hb
  rw [hl'] at hr
  generalize (act fr).eval = ρ at *
  simp only [execOp, hx, hi, hy, Sem.run_bind, hr, Result.andThen_ok, Sem.run_pure]⟩

/-! ## Parts of a body: each has bytes of its own -/
structure Prt where
  A : Option Addr
  cp : Nat
  l : List UInt8
  f : Bool
def Prt.row (e : Nat) (q : Prt) : Ent := .row (.slice q.A q.l.length q.cp) e 1 q.l.length (q.l.map byteV)
def rowsP (e : Nat) (ps : List Prt) : Hp := ps.map (Prt.row e)
def pcells : List Prt → List Value
  | [] => []
  | q :: r => .slice q.A q.l.length q.cp :: .bool q.f :: pcells r
def pure1 (q : Prt) : List UInt8 × Bool := (q.l, q.f)
theorem pcells_length : ∀ ps : List Prt, (pcells ps).length = ps.length * 2
  | [] => rfl
  | q :: r => by simp only [pcells, List.length_cons, pcells_length r]; omega
theorem pcells_append : ∀ a b : List Prt, pcells (a ++ b) = pcells a ++ pcells b
  | [], _ => rfl
  | q :: a, b => by simp only [List.cons_append, pcells, pcells_append a b]
theorem pcells_at : ∀ (l : List Prt) (k : Nat) (h : k < l.length), (pcells l)[k * 2]? = some (.slice l[k].A l[k].l.length l[k].cp) ∧ (pcells l)[k * 2 + 1]? = some (.bool l[k].f) ∧ ((pcells l).drop (k * 2)).take 2 = [.slice l[k].A l[k].l.length l[k].cp, .bool l[k].f]
  | q :: r, 0, _ => ⟨rfl, rfl, rfl⟩
  | q :: r, k + 1, h => by
    have ih := pcells_at r k (by simpa using h)
    rw [show (k + 1) * 2 = k * 2 + 1 + 1 by omega]
    simp only [pcells, List.getElem?_cons_succ, List.drop_succ_cons, List.getElem_cons_succ]
    exact ih
theorem pcells_one {ps : List Prt} : ∀ u ∈ pcells ps, u.oneCell' = true := by
  induction ps with
  | nil => intro u h; cases h
  | cons q r ih =>
    intro u h
    simp only [pcells, List.mem_cons] at h
    rcases h with rfl | rfl | h
    · rfl
    · rfl
    · exact ih u h
theorem Prt.rd {e : Nat} {ps : List Prt} {q : Prt} (h : q ∈ ps) : RdS c (rowsP e ps) q.A (q.l.map byteV) :=
  RdS.sub (H := [q.row e]) RdS.here (List.singleton_sublist.2 (List.mem_map_of_mem h))
theorem rowsP_app {e : Nat} {a b : List Prt} : rowsP e (a ++ b) = rowsP e a ++ rowsP e b := List.map_append
theorem Cv.snoc {e : Nat} {ps : List Prt} {q : Prt} (h : Cv H (q.row e :: rowsP e ps)) : Cv H (rowsP e (ps ++ [q])) :=
  h.trans (.of (by rw [rowsP_app]; exact (List.perm_append_comm (l₁ := [q.row e]) (l₂ := rowsP e ps))))
theorem Cv.close {e : Nat} {ps : List Prt} {q : Prt} {X : Hp} : Cv (q.row e :: (X ++ rowsP e ps)) (X ++ rowsP e (ps ++ [q])) :=
  .of (by
    rw [rowsP_app, ← List.append_assoc]
    exact (List.perm_append_comm (l₁ := [q.row e]) (l₂ := X ++ rowsP e ps)))
end
end Go.Proofs.YtnaeeklnlddcaaaDoor.Vex
/- The program's functions on routes, reckoned: strings.Split, a name, places. -/
namespace Go.Proofs.YtnaeeklnlddcaaaDoor.Vex
open Go Go.RowKit
set_option maxRecDepth 100000
set_option linter.unusedSectionVars false
variable {gI : GI} [HasMax gI] [HasErr gI]

theorem splitK_is (c : UInt8) : ∀ (n : Nat) (l : List UInt8), l.length ≤ n → Lib.splitK [c] 0 (Lib.count l [c]) l = splitB c l := by
  intro n
  induction n with
  | zero =>
    intro l h
    obtain rfl : l = [] := List.eq_nil_of_length_eq_zero (by omega)
    rw [Lib.count_miss rfl]
    rfl
  | succ n ih =>
    intro l h
    rcases index_one c l with ⟨h1, h2⟩ | ⟨k, h1, h2, h3, h4⟩
    · rw [Lib.count_miss h1, splitB_none c l h2]
      rfl
    · rw [Lib.count_hit (by simp) h1, splitB_at c l k h3 h4, Nat.add_comm 1, Lib.splitK]
      rw [if_neg (by rw [h1, beq_iff_eq]; omega), h1]
      rw [show ((k : Nat) : Int).toNat = k by omega, show ([c] : List UInt8).length = 1 from rfl, Nat.add_zero]
      rw [ih (l.drop (k + 1)) (by rw [List.length_drop]; omega)]
theorem Split_f (l : List UInt8) (c : UInt8) (hl : l.length ≤ 1000000000) : FnS Tryd.prog gI 24 [str l, str [c]] [] 9 1 (splitB c l).length ((splitB c l).map str) :=
  ⟨callable Tryd.func24 rfl (by kernel_rfl), fun w hG _ => by
    obtain ⟨m, hm⟩ := HasMax.ok w hG
    refine (Tryd.strings_Split ⟨⟨l⟩⟩ ⟨⟨[c]⟩⟩ m w (by show l.length < _; omega) hm (Nat.le_refl _)).mono fun e w' ⟨he, hw⟩ => ?_
    have hk := splitK_is c l.length l (Nat.le_refl _)
    have hd := Lib.splitB_data ⟨⟨[c]⟩⟩ 0 (Lib.countB ⟨⟨l⟩⟩ ⟨⟨[c]⟩⟩) ⟨⟨l⟩⟩
    have hs : (Lib.splitB ⟨⟨[c]⟩⟩ 0 (Lib.countB ⟨⟨l⟩⟩ ⟨⟨[c]⟩⟩) ⟨⟨l⟩⟩).map (·.data.toList) = splitB c l := hd.trans hk
    have hn := congrArg List.length hs
    rw [List.length_map, Lib.splitB_all ⟨⟨[c]⟩⟩ (Nat.le_refl _) 0 _ ⟨⟨l⟩⟩ rfl] at hn
    have hc : Lib.countB ⟨⟨l⟩⟩ ⟨⟨[c]⟩⟩ + 1 = (splitB c l).length := hn
    have hz := splitB_length c l
    have hv : (Lib.splitB ⟨⟨[c]⟩⟩ 0 (Lib.countB ⟨⟨l⟩⟩ ⟨⟨[c]⟩⟩) ⟨⟨l⟩⟩).map Value.string = (splitB c l).map str := by
      rw [← hs, List.map_map]
      rfl
    rw [hc] at he
    rw [hv] at hw
    subst hw
    refine ⟨_, he, ⟨⟨by rw [List.length_map, Nat.mul_one], .inr ⟨w.heap.size, (splitB c l).length, ((splitB c l).map str).toArray, (0, 0), rfl, heap_alloc_new w _, Nat.le_refl _, by simp only [maxLen]; omega, by simp, ?_, .inl (Nat.le_refl _)⟩⟩, fun b hb => ?_⟩, (Below.refl _ _).alloc (Nat.le_refl _) _⟩
    · rw [Nat.mul_one]
      simp
      exact List.take_of_length_le (by rw [List.length_map]; exact Nat.le_refl _)
    · cases hb
      exact ⟨Nat.le_refl _, by simp⟩⟩
def lettersL : List UInt8 := [97, 98, 99, 100, 101, 102, 103, 104, 105, 106, 107, 108, 109, 110, 111, 112, 113, 114, 115, 116, 117, 118, 119, 120, 121, 122]
theorem letter_is (x : UInt8) : lettersL.contains x = letB x := by
  have : ∀ n : Fin 256, lettersL.contains (UInt8.ofNat n.val) = letB (UInt8.ofNat n.val) := by decide +kernel
  have h := this ⟨x.toNat, x.toNat_lt⟩
  simpa using h
theorem TrimL_f (l : List UInt8) (hs : l.length ≤ 9223372036854775807) : Fn Tryd.prog gI 34 [str l, str lettersL] (str (Lib.trimS l lettersL)) :=
  ⟨callable Tryd.func34 rfl (by kernel_rfl), fun w _ => (Any.strings_Trim_laid Tryd.lays160 (by kernel_rfl) ⟨⟨l⟩⟩ ⟨⟨lettersL⟩⟩ w hs (by decide) (ascii_of_all (by decide))).mono fun e w' ⟨he, hb⟩ => ⟨he, hb⟩⟩
theorem name_f (s : List UInt8) (hs : s.length ≤ 1000000000) : Fn Tryd.prog gI 26 [str s] (.bool (nameB s)) := by
  refine Fn.of tys_ok Tryd.func26 rfl (by kernel_rfl) rfl rfl ?_; intro w hG
  have ht : Lib.trimS s lettersL = [] ↔ s.all letB = true := by
    rw [trim_nil, List.all_eq_true]
    exact ⟨fun h x hx => by rw [← letter_is]; exact h x hx, fun h x hx => by rw [letter_is]; exact h x hx⟩
  unfold nameB
  by_cases h0 : s = []
  · subst h0
    (conv => whnf); repeat ((first | refine tk1 ?_ | refine tk2 ?_ | refine tk3 ?_ | refine tk12 (fun _ => ?_) | refine tk4 ?_ | refine tk5 ?_ | refine tk6 ?_ | refine tk7 ?_ | refine tk8 ?_ | refine tk9 ?_ | refine tk10 (fun _ _ => ?_) | refine tk11 (fun _ => ?_) | refine tk13 ?_ | refine tk14 ?_); (conv => whnf))
    rfl
  rw [decide_eq_false h0]
  (conv => whnf); repeat ((first | refine tk1 ?_ | refine tk2 ?_ | refine tk3 ?_ | refine tk12 (fun _ => ?_) | refine tk4 ?_ | refine tk5 ?_ | refine tk6 ?_ | refine tk7 ?_ | refine tk8 ?_ | refine tk9 ?_ | refine tk10 (fun _ _ => ?_) | refine tk11 (fun _ => ?_) | refine tk13 ?_ | refine tk14 ?_); (conv => whnf))
  refine CallK.fn (TrimL_f s (by omega)) ?_
  by_cases h1 : Lib.trimS s lettersL = []
  · rw [ht.1 h1]
    (conv => whnf); repeat ((first | refine tk1 ?_ | refine tk2 ?_ | refine tk3 ?_ | refine tk12 (fun _ => ?_) | refine tk4 ?_ | refine tk5 ?_ | refine tk6 ?_ | refine tk7 ?_ | refine tk8 ?_ | refine tk9 ?_ | refine tk10 (fun _ _ => ?_) | refine tk11 (fun _ => ?_) | refine tk13 ?_ | refine tk14 ?_); (conv => whnf))
    rfl
  · have h2 : s.all letB = false := by
      cases h : s.all letB
      · rfl
      · exact absurd (ht.2 h) h1
    rw [h2]
    (conv => whnf); repeat ((first | refine tk1 ?_ | refine tk2 ?_ | refine tk3 ?_ | refine tk12 (fun _ => ?_) | refine tk4 ?_ | refine tk5 ?_ | refine tk6 ?_ | refine tk7 ?_ | refine tk8 ?_ | refine tk9 ?_ | refine tk10 (fun _ _ => ?_) | refine tk11 (fun _ => ?_) | refine tk13 ?_ | refine tk14 ?_); (conv => whnf))
    rfl
def plcCells : List Plc → List Value
  | [] => []
  | p :: r => .int .i64 p.1 :: str p.2 :: plcCells r
theorem plcCells_length : ∀ l : List Plc, (plcCells l).length = l.length * 2
  | [] => rfl
  | p :: r => by simp only [plcCells, List.length_cons, plcCells_length r]; omega
theorem plcCells_app : ∀ a b : List Plc, plcCells (a ++ b) = plcCells a ++ plcCells b
  | [], _ => rfl
  | p :: a, b => by simp only [List.cons_append, plcCells, plcCells_app a b]
/-- Places from some on. -/
theorem placesG_len : ∀ (a b : List (List UInt8)) (l : List Plc), placesG a b = some l → l.length = a.length
  | [], _, l, h => by cases h; rfl
  | s :: r, ts, l, h => by
    unfold placesG at h
    split at h
    · cases h
    · rename_i p hp
      cases hr : placesG r ts.tail with
      | none => rw [hr] at h; cases h
      | some t =>
        rw [hr] at h
        cases h
        rw [List.length_cons, List.length_cons, placesG_len r _ t hr]
structure PlM where
  A : Option Addr
  c : Nat
/-- What places tells: the places, or none. -/
def PlV (o : Option (List Plc)) (x : PlM) : Value := .tuple #[.slice x.A (o.getD []).length x.c, .bool o.isSome]
def PlH (o : Option (List Plc)) (x : PlM) : Hp := [.row (.slice x.A (o.getD []).length x.c) 67 2 (o.getD []).length (plcCells (o.getD []))]
theorem pre_one (c : UInt8) (s : List UInt8) : Lib.hasPrefix s [c] = decide (s.head? = some c) := by
  cases s with
  | nil => rfl
  | cons x r =>
    show ((c == x) && true) = _
    rw [Bool.and_true, Bool.eq_iff_iff, beq_iff_eq, decide_eq_true_eq]
    exact ⟨fun h => by rw [h]; rfl, fun h => (Option.some.inj h).symm⟩
theorem cut_one (x : UInt8) (q : List UInt8) : ((x :: q).take (((x :: q).length : Nat) : Int).toNat).drop (Int.toNat 1) = q := by rw [Int.toNat_natCast, List.take_length]; rfl
set_option maxHeartbeats 8000000 in
theorem places_f (s : List UInt8) (hs : s.length ≤ 1000000000) : FnT Tryd.prog gI 15 [str s] (fun _ => True) (PlV (placesOf s)) (fun _ => True) (PlH (placesOf s)) (fun _ => []) := by
  have hseg := Segments_f (gI := gI) s hs
  refine FnE.of tys_ok Tryd.func15 rfl (by kernel_rfl) rfl rfl ?_; intro w hG hP
  have hfail : ∀ (o : Option (List Plc)) (w w' : World) (hG : gI.G w), o = none → St (mkC Tryd.prog gI w hG) [] w' → ∃ x, Value.tuple #[.slice none 0 0, .bool false] = PlV o x ∧ True ∧ newH w w' (PlH o x ++ []) := fun o w w' hG hr hw' => by
    subst hr
    exact ⟨⟨none, 0⟩, rfl, trivial, newH.of (hw'.nilRow 67 2)⟩
  (conv => whnf); repeat ((first | refine tk1 ?_ | refine tk2 ?_ | refine tk3 ?_ | refine tk12 (fun _ => ?_) | refine tk4 ?_ | refine tk5 ?_ | refine tk6 ?_ | refine tk7 ?_ | refine tk8 ?_ | refine tk9 ?_ | refine tk10 (fun _ _ => ?_) | refine tk11 (fun _ => ?_) | refine tk13 ?_ | refine tk14 ?_); (conv => whnf))
  refine CallK.fnG (G := fun u => .tuple #[u, .int .i64 (segE s)]) hseg (fun _ _ => trivial) (fun TA tc _ => ?_)
  unfold placesOf
  cases hp : pathOf s
  · rw [if_neg (by simp), show segE s = 3 by unfold segE; rw [hp]; rfl]
    (conv => whnf); repeat ((first | refine tk1 ?_ | refine tk2 ?_ | refine tk3 ?_ | refine tk12 (fun _ => ?_) | refine tk4 ?_ | refine tk5 ?_ | refine tk6 ?_ | refine tk7 ?_ | refine tk8 ?_ | refine tk9 ?_ | refine tk10 (fun _ _ => ?_) | refine tk11 (fun _ => ?_) | refine tk13 ?_ | refine tk14 ?_); (conv => whnf))
    exact fun w' hw' => hfail _ w w' hG rfl (hw'.sub (List.nil_sublist _))
  rw [show segE s = 0 by unfold segE; rw [hp]; rfl, show segO s = segs s by unfold segO; rw [hp]; rfl]
  by_cases hl : 4096 < s.length
  · rw [if_neg (by omega)]
    (conv => whnf); repeat ((first | refine tk1 ?_ | refine tk2 ?_ | refine tk3 ?_ | refine tk12 (fun _ => ?_) | refine tk4 ?_ | refine tk5 ?_ | refine tk6 ?_ | refine tk7 ?_ | refine tk8 ?_ | refine tk9 ?_ | refine tk10 (fun _ _ => ?_) | refine tk11 (fun _ => ?_) | refine tk13 ?_ | refine tk14 ?_); (conv => whnf))
    exact fun w' hw' => hfail _ w w' hG rfl (hw'.sub (List.nil_sublist _))
  rw [if_pos ⟨rfl, by omega⟩]
  obtain ⟨l, rfl⟩ := path_head hp
  rw [List.drop_succ_cons, List.drop_zero]
  simp only [List.length_cons] at hl hs
  have hraw := splitB_length 47 l
  have hmem := fun p hp => (splitB_mem 47 l p hp).2
  have hT : (segs (47 :: l)).length = (splitB 47 l).length := by unfold segs; rw [List.length_map]; rfl
  obtain ⟨T, hTT⟩ : ∃ T, segs (47 :: l) = T := ⟨_, rfl⟩
  have hsp := Split_f (gI := gI) l 47 (by omega)
  obtain ⟨R, hRR⟩ : ∃ R, splitB 47 l = R := ⟨_, rfl⟩
  rw [hTT] at hT ⊢
  rw [hRR] at hraw hmem hT hsp ⊢
  obtain ⟨G, hG2⟩ : ∃ G, placesG R T = G := ⟨_, rfl⟩
  rw [hG2]
  (conv => whnf); repeat ((first | refine tk1 ?_ | refine tk2 ?_ | refine tk3 ?_ | refine tk12 (fun _ => ?_) | refine tk4 ?_ | refine tk5 ?_ | refine tk6 ?_ | refine tk7 ?_ | refine tk8 ?_ | refine tk9 ?_ | refine tk10 (fun _ _ => ?_) | refine tk11 (fun _ => ?_) | refine tk13 ?_ | refine tk14 ?_); (conv => whnf))
  refine SlcS.at (by omega) (by simp only [List.length_cons]; omega) (by omega) ?_
  rw [show (((47 : UInt8) :: l).take ((((47 : UInt8) :: l).length : Nat) : Int).toNat).drop (Int.toNat 1) = l by rw [Int.toNat_natCast, List.take_length]; rfl]
  (conv => whnf); repeat ((first | refine tk1 ?_ | refine tk2 ?_ | refine tk3 ?_ | refine tk12 (fun _ => ?_) | refine tk4 ?_ | refine tk5 ?_ | refine tk6 ?_ | refine tk7 ?_ | refine tk8 ?_ | refine tk9 ?_ | refine tk10 (fun _ _ => ?_) | refine tk11 (fun _ => ?_) | refine tk13 ?_ | refine tk14 ?_); (conv => whnf))
  refine CallK.fnS hsp trivial (fun RA rc => ?_)
  (conv => whnf); repeat ((first | refine tk1 ?_ | refine tk2 ?_ | refine tk3 ?_ | refine tk12 (fun _ => ?_) | refine tk4 ?_ | refine tk5 ?_ | refine tk6 ?_ | refine tk7 ?_ | refine tk8 ?_ | refine tk9 ?_ | refine tk10 (fun _ _ => ?_) | refine tk11 (fun _ => ?_) | refine tk13 ?_ | refine tk14 ?_); (conv => whnf))
  refine LoopS.lpT tys_ok (fun (z : Nat × List Plc × Option Addr × Nat) u => [u 0, u 1, .slice z.2.2.1 z.2.1.length z.2.2.2, u 3, .slice TA T.length tc, u 5, .slice RA R.length rc, u 7, u 8, u 9, u 10, u 11, u 12, u 13, u 14, u 15, u 16, u 17, u 18, u 19, u 20, u 21, u 22, u 23, .slice RA R.length rc, .int .i64 R.length, .int .i64 (z.1 : Nat), u 27, u 28, u 29, u 30, u 31, u 32, u 33, u 34, u 35, u 36, u 37, u 38, u 39, u 40, u 41, u 42, u 43, u 44, u 45, u 46, u 47, u 48, u 49, u 50, u 51, u 52, u 53, u 54, u 55, u 56, u 57, u 58, u 59, u 60, u 61, u 62, u 63, u 64, u 65, u 66, u 67, u 68, u 69, u 70, u 71, u 72, u 73, u 74, u 75, u 76, u 77, u 78, u 79, u 80])
    (fun z => .row (.slice z.2.2.1 z.2.1.length z.2.2.2) 67 2 z.2.1.length (plcCells z.2.1) :: .row (.slice RA R.length rc) 9 1 R.length (R.map str) :: [.row (.slice TA T.length tc) 9 1 T.length (T.map str)])
    (fun z => z.1 ≤ R.length ∧ z.2.1.length = z.1 ∧ (placesG (R.drop z.1) (T.drop z.1)).map (z.2.1 ++ ·) = G) (fun z => R.length - z.1) (0, [], none, 0) ⟨Nat.zero_le _, rfl, by simpa using hG2⟩ rfl (Into.nilRow (e := 67) (sz := 2) (Cv.into (by (try dsimp only); repeat' (first | with_reducible exact Cv.refl | with_reducible exact Cv.left | with_reducible exact Cv.right | with_reducible exact Cv.nil | (with_reducible apply Cv.cons; focus ((repeat (first | with_reducible exact Pick.here | with_reducible apply Pick.skip)); done)) | (apply Cv.cons; focus ((repeat (first | exact Pick.here | apply Pick.skip)); done)) | exact Cv.nil | exact Cv.refl | exact Cv.left | exact Cv.right | refine Cv.skip ?_)))) ?_
  rintro ⟨k, acc, A, cp⟩ u ⟨hk, ha, hI⟩
  dsimp only at hk ha hI ⊢
  by_cases hlt : k < R.length
  rotate_left
  · obtain rfl : k = R.length := by omega
    rw [List.drop_length] at hI
    have hI : some (acc ++ []) = G := hI
    rw [List.append_nil] at hI
    subst hI
    (conv => whnf); repeat ((first | refine tk1 ?_ | refine tk2 ?_ | refine tk3 ?_ | refine tk12 (fun _ => ?_) | refine tk4 ?_ | refine tk5 ?_ | refine tk6 ?_ | refine tk7 ?_ | refine tk8 ?_ | refine tk9 ?_ | refine tk10 (fun _ _ => ?_) | refine tk11 (fun _ => ?_) | refine tk13 ?_ | refine tk14 ?_); (conv => whnf))
    exact fun w' hw' => ⟨⟨A, cp⟩, rfl, trivial, newH.into hw' (Cv.into (by (try dsimp only); repeat' (first | with_reducible exact Cv.refl | with_reducible exact Cv.left | with_reducible exact Cv.right | with_reducible exact Cv.nil | (with_reducible apply Cv.cons; focus ((repeat (first | with_reducible exact Pick.here | with_reducible apply Pick.skip)); done)) | (apply Cv.cons; focus ((repeat (first | exact Pick.here | apply Pick.skip)); done)) | exact Cv.nil | exact Cv.refl | exact Cv.left | exact Cv.right | refine Cv.skip ?_)))⟩
  have hltT : k < T.length := by omega
  have hxR : (R.map str)[((k : Nat) : Int).toNat * 1]? = some (str R[k]) := by rw [Int.toNat_natCast, Nat.mul_one, List.getElem?_map, List.getElem?_eq_getElem hlt]; rfl
  have hxT : (T.map str)[((k : Nat) : Int).toNat * 1]? = some (str T[k]) := by rw [Int.toNat_natCast, Nat.mul_one, List.getElem?_map, List.getElem?_eq_getElem hltT]; rfl
  have hrl := hmem R[k] (List.getElem_mem hlt)
  rw [List.drop_eq_getElem_cons hlt, List.drop_eq_getElem_cons hltT] at hI
  have hlast : decide (R.drop (k + 1) = []) = decide (k = R.length - 1) := by
    rw [decide_eq_decide, List.drop_eq_nil_iff]
    omega
  generalize R[k] = s at *
  generalize T[k] = t at *
  unfold placesG at hI
  rw [hlast] at hI
  simp only [List.headD_cons, List.tail_cons] at hI
  have h42 := pre_one 42 s
  have h58 := pre_one 58 s
  have hp42 := HasPrefix_f (gI := gI) s [42]
  have hp58 := HasPrefix_f (gI := gI) s [58]
  rw [h42] at hp42
  rw [h58] at hp58
  clear h42 h58
  unfold placeOf at hI
  by_cases c42 : s.head? = some 42
  · obtain ⟨q, rfl⟩ : ∃ q, s = 42 :: q := by
      cases s with
      | nil => cases c42
      | cons x r => exact ⟨r, by simp at c42; rw [c42]⟩
    rw [decide_eq_true c42] at hp42
    rw [decide_eq_false (by simp)] at hp58
    have hn := name_f (gI := gI) q (by simp only [List.length_cons] at hrl; omega)
    rw [List.drop_succ_cons, List.drop_zero] at hI
    cases hnq : nameB q
    · rw [hnq] at hn
      rw [hnq] at hI
      have hI : none = G := by simpa using hI
      (repeat' ((conv => whnf); first | (first | refine tk1 ?_ | refine tk2 ?_ | refine tk3 ?_ | refine tk12 (fun _ => ?_) | refine tk4 ?_ | refine tk5 ?_ | refine tk6 ?_ | refine tk7 ?_ | refine tk8 ?_ | refine tk9 ?_ | refine tk10 (fun _ _ => ?_) | refine tk11 (fun _ => ?_) | refine tk13 ?_ | refine tk14 ?_) | refine Cmp.cases (fun _ => ?_) (fun _ => ?_) | refine IdxS.nat (by omega) ?_ | refine IdxS.go (by omega) (by omega) (fun _ _ _ => ?_) | refine SlcS.at (by omega) (by omega) (by omega) ?_ | refine CatS.at (by simp only [List.length_append, List.length_cons, List.length_nil]; omega) ?_ | (refine IdxA.tc (xs := R.map str) (by rw [List.length_map]; omega) (by omega) (by omega) ?_) | (refine Ld.ta (xs := R.map str) hxR ?_) | (refine IdxA.tc (xs := T.map str) (by rw [List.length_map]; omega) (by omega) (by omega) ?_) | (refine Ld.ta (xs := T.map str) hxT ?_) | (refine CallK.fn hp42 ?_) | (refine CallK.fn hp58 ?_) | (refine CallK.fn hn ?_) | (refine SlcS.at (by omega) (by simp only [List.length_cons]; omega) (by omega) ?_; rw [cut_one 42 q]))); all_goals (conv => whnf)
      exact fun w' hw' => hfail _ w w' hG hI.symm (hw'.sub (List.nil_sublist _))
    · rw [hnq] at hn
      rw [hnq] at hI
      by_cases hkl : k = R.length - 1
      · rw [if_pos ⟨rfl, rfl, by rw [decide_eq_true hkl]⟩] at hI
        (repeat' ((conv => whnf); first | (first | refine tk1 ?_ | refine tk2 ?_ | refine tk3 ?_ | refine tk12 (fun _ => ?_) | refine tk4 ?_ | refine tk5 ?_ | refine tk6 ?_ | refine tk7 ?_ | refine tk8 ?_ | refine tk9 ?_ | refine tk10 (fun _ _ => ?_) | refine tk11 (fun _ => ?_) | refine tk13 ?_ | refine tk14 ?_) | refine Cmp.cases (fun _ => ?_) (fun _ => ?_) | refine IdxS.nat (by omega) ?_ | refine IdxS.go (by omega) (by omega) (fun _ _ _ => ?_) | refine SlcS.at (by omega) (by omega) (by omega) ?_ | refine CatS.at (by simp only [List.length_append, List.length_cons, List.length_nil]; omega) ?_ | (refine IdxA.tc (xs := R.map str) (by rw [List.length_map]; omega) (by omega) (by omega) ?_) | (refine Ld.ta (xs := R.map str) hxR ?_) | (refine IdxA.tc (xs := T.map str) (by rw [List.length_map]; omega) (by omega) (by omega) ?_) | (refine Ld.ta (xs := T.map str) hxT ?_) | (refine CallK.fn hp42 ?_) | (refine CallK.fn hp58 ?_) | (refine CallK.fn hn ?_) | (refine SlcS.at (by omega) (by simp only [List.length_cons]; omega) (by omega) ?_; rw [cut_one 42 q]))); all_goals (conv => whnf)
        refine AppS.tc (m := 1) (news := [.int .i64 2, str q]) SrcK.tc rfl (by simp [Value.oneCell']) (by decide) (by omega) (by omega) (zs := plcCells (acc ++ [(2, q)])) (by rw [plcCells_app]; rfl) (fun A' cp' => ?_)
        rw [show acc.length + 1 = (acc ++ [((2 : Int), q)]).length by simp]
        (conv => whnf); repeat ((first | refine tk1 ?_ | refine tk2 ?_ | refine tk3 ?_ | refine tk12 (fun _ => ?_) | refine tk4 ?_ | refine tk5 ?_ | refine tk6 ?_ | refine tk7 ?_ | refine tk8 ?_ | refine tk9 ?_ | refine tk10 (fun _ _ => ?_) | refine tk11 (fun _ => ?_) | refine tk13 ?_ | refine tk14 ?_); (conv => whnf))
        exact ⟨(k + 1, acc ++ [(2, q)], A', cp'), ⟨by dsimp only; omega, by dsimp only; rw [List.length_append]; simp only [List.length_singleton]; omega, by dsimp only; rw [← hI]; cases placesG (R.drop (k + 1)) (T.drop (k + 1)) <;> simp⟩, rfl, Cv.into (by (try dsimp only); repeat' (first | with_reducible exact Cv.refl | with_reducible exact Cv.left | with_reducible exact Cv.right | with_reducible exact Cv.nil | (with_reducible apply Cv.cons; focus ((repeat (first | with_reducible exact Pick.here | with_reducible apply Pick.skip)); done)) | (apply Cv.cons; focus ((repeat (first | exact Pick.here | apply Pick.skip)); done)) | exact Cv.nil | exact Cv.refl | exact Cv.left | exact Cv.right | refine Cv.skip ?_)), by dsimp only; omega⟩
      · have hI : none = G := by rw [decide_eq_false hkl] at hI; simpa using hI
        (repeat' ((conv => whnf); first | (first | refine tk1 ?_ | refine tk2 ?_ | refine tk3 ?_ | refine tk12 (fun _ => ?_) | refine tk4 ?_ | refine tk5 ?_ | refine tk6 ?_ | refine tk7 ?_ | refine tk8 ?_ | refine tk9 ?_ | refine tk10 (fun _ _ => ?_) | refine tk11 (fun _ => ?_) | refine tk13 ?_ | refine tk14 ?_) | refine Cmp.cases (fun _ => ?_) (fun _ => ?_) | refine IdxS.nat (by omega) ?_ | refine IdxS.go (by omega) (by omega) (fun _ _ _ => ?_) | refine SlcS.at (by omega) (by omega) (by omega) ?_ | refine CatS.at (by simp only [List.length_append, List.length_cons, List.length_nil]; omega) ?_ | (refine IdxA.tc (xs := R.map str) (by rw [List.length_map]; omega) (by omega) (by omega) ?_) | (refine Ld.ta (xs := R.map str) hxR ?_) | (refine IdxA.tc (xs := T.map str) (by rw [List.length_map]; omega) (by omega) (by omega) ?_) | (refine Ld.ta (xs := T.map str) hxT ?_) | (refine CallK.fn hp42 ?_) | (refine CallK.fn hp58 ?_) | (refine CallK.fn hn ?_) | (refine SlcS.at (by omega) (by simp only [List.length_cons]; omega) (by omega) ?_; rw [cut_one 42 q]))); all_goals (conv => whnf)
        exact fun w' hw' => hfail _ w w' hG hI.symm (hw'.sub (List.nil_sublist _))
  by_cases c58 : s.head? = some 58
  · obtain ⟨q, rfl⟩ : ∃ q, s = 58 :: q := by
      cases s with
      | nil => cases c58
      | cons x r => exact ⟨r, by simp at c58; rw [c58]⟩
    rw [decide_eq_true c58] at hp58
    rw [decide_eq_false c42] at hp42
    have hn := name_f (gI := gI) q (by simp only [List.length_cons] at hrl; omega)
    rw [List.drop_succ_cons, List.drop_zero] at hI
    rw [if_neg (fun h => c42 h.1)] at hI
    cases hnq : nameB q
    · rw [hnq] at hn hI
      have hI : none = G := by simpa using hI
      (repeat' ((conv => whnf); first | (first | refine tk1 ?_ | refine tk2 ?_ | refine tk3 ?_ | refine tk12 (fun _ => ?_) | refine tk4 ?_ | refine tk5 ?_ | refine tk6 ?_ | refine tk7 ?_ | refine tk8 ?_ | refine tk9 ?_ | refine tk10 (fun _ _ => ?_) | refine tk11 (fun _ => ?_) | refine tk13 ?_ | refine tk14 ?_) | refine Cmp.cases (fun _ => ?_) (fun _ => ?_) | refine IdxS.nat (by omega) ?_ | refine IdxS.go (by omega) (by omega) (fun _ _ _ => ?_) | refine SlcS.at (by omega) (by omega) (by omega) ?_ | refine CatS.at (by simp only [List.length_append, List.length_cons, List.length_nil]; omega) ?_ | (refine IdxA.tc (xs := R.map str) (by rw [List.length_map]; omega) (by omega) (by omega) ?_) | (refine Ld.ta (xs := R.map str) hxR ?_) | (refine IdxA.tc (xs := T.map str) (by rw [List.length_map]; omega) (by omega) (by omega) ?_) | (refine Ld.ta (xs := T.map str) hxT ?_) | (refine CallK.fn hp42 ?_) | (refine CallK.fn hp58 ?_) | (refine CallK.fn hn ?_) | (refine SlcS.at (by omega) (by simp only [List.length_cons]; omega) (by omega) ?_; rw [cut_one 58 q]))); all_goals (conv => whnf)
      exact fun w' hw' => hfail _ w w' hG hI.symm (hw'.sub (List.nil_sublist _))
    · rw [hnq] at hn hI
      rw [if_pos ⟨rfl, rfl⟩] at hI
      (repeat' ((conv => whnf); first | (first | refine tk1 ?_ | refine tk2 ?_ | refine tk3 ?_ | refine tk12 (fun _ => ?_) | refine tk4 ?_ | refine tk5 ?_ | refine tk6 ?_ | refine tk7 ?_ | refine tk8 ?_ | refine tk9 ?_ | refine tk10 (fun _ _ => ?_) | refine tk11 (fun _ => ?_) | refine tk13 ?_ | refine tk14 ?_) | refine Cmp.cases (fun _ => ?_) (fun _ => ?_) | refine IdxS.nat (by omega) ?_ | refine IdxS.go (by omega) (by omega) (fun _ _ _ => ?_) | refine SlcS.at (by omega) (by omega) (by omega) ?_ | refine CatS.at (by simp only [List.length_append, List.length_cons, List.length_nil]; omega) ?_ | (refine IdxA.tc (xs := R.map str) (by rw [List.length_map]; omega) (by omega) (by omega) ?_) | (refine Ld.ta (xs := R.map str) hxR ?_) | (refine IdxA.tc (xs := T.map str) (by rw [List.length_map]; omega) (by omega) (by omega) ?_) | (refine Ld.ta (xs := T.map str) hxT ?_) | (refine CallK.fn hp42 ?_) | (refine CallK.fn hp58 ?_) | (refine CallK.fn hn ?_) | (refine SlcS.at (by omega) (by simp only [List.length_cons]; omega) (by omega) ?_; rw [cut_one 58 q]))); all_goals (conv => whnf)
      refine AppS.tc (m := 1) (news := [.int .i64 1, str q]) SrcK.tc rfl (by simp [Value.oneCell']) (by decide) (by omega) (by omega) (zs := plcCells (acc ++ [(1, q)])) (by rw [plcCells_app]; rfl) (fun A' cp' => ?_)
      rw [show acc.length + 1 = (acc ++ [((1 : Int), q)]).length by simp]
      (conv => whnf); repeat ((first | refine tk1 ?_ | refine tk2 ?_ | refine tk3 ?_ | refine tk12 (fun _ => ?_) | refine tk4 ?_ | refine tk5 ?_ | refine tk6 ?_ | refine tk7 ?_ | refine tk8 ?_ | refine tk9 ?_ | refine tk10 (fun _ _ => ?_) | refine tk11 (fun _ => ?_) | refine tk13 ?_ | refine tk14 ?_); (conv => whnf))
      exact ⟨(k + 1, acc ++ [(1, q)], A', cp'), ⟨by dsimp only; omega, by dsimp only; rw [List.length_append]; simp only [List.length_singleton]; omega, by dsimp only; rw [← hI]; cases placesG (R.drop (k + 1)) (T.drop (k + 1)) <;> simp⟩, rfl, Cv.into (by (try dsimp only); repeat' (first | with_reducible exact Cv.refl | with_reducible exact Cv.left | with_reducible exact Cv.right | with_reducible exact Cv.nil | (with_reducible apply Cv.cons; focus ((repeat (first | with_reducible exact Pick.here | with_reducible apply Pick.skip)); done)) | (apply Cv.cons; focus ((repeat (first | exact Pick.here | apply Pick.skip)); done)) | exact Cv.nil | exact Cv.refl | exact Cv.left | exact Cv.right | refine Cv.skip ?_)), by dsimp only; omega⟩
  · rw [decide_eq_false c58] at hp58
    rw [decide_eq_false c42] at hp42
    rw [if_neg (fun h => c42 h.1), if_neg (fun h => c58 h.1), if_neg (fun h => h.elim c42 c58)] at hI
    (repeat' ((conv => whnf); first | (first | refine tk1 ?_ | refine tk2 ?_ | refine tk3 ?_ | refine tk12 (fun _ => ?_) | refine tk4 ?_ | refine tk5 ?_ | refine tk6 ?_ | refine tk7 ?_ | refine tk8 ?_ | refine tk9 ?_ | refine tk10 (fun _ _ => ?_) | refine tk11 (fun _ => ?_) | refine tk13 ?_ | refine tk14 ?_) | refine Cmp.cases (fun _ => ?_) (fun _ => ?_) | refine IdxS.nat (by omega) ?_ | refine IdxS.go (by omega) (by omega) (fun _ _ _ => ?_) | refine SlcS.at (by omega) (by omega) (by omega) ?_ | refine CatS.at (by simp only [List.length_append, List.length_cons, List.length_nil]; omega) ?_ | (refine IdxA.tc (xs := R.map str) (by rw [List.length_map]; omega) (by omega) (by omega) ?_) | (refine Ld.ta (xs := R.map str) hxR ?_) | (refine IdxA.tc (xs := T.map str) (by rw [List.length_map]; omega) (by omega) (by omega) ?_) | (refine Ld.ta (xs := T.map str) hxT ?_) | (refine CallK.fn hp42 ?_) | (refine CallK.fn hp58 ?_))); all_goals (conv => whnf)
    refine AppS.tc (m := 1) (news := [.int .i64 0, str t]) SrcK.tc rfl (by simp [Value.oneCell']) (by decide) (by omega) (by omega) (zs := plcCells (acc ++ [(0, t)])) (by rw [plcCells_app]; rfl) (fun A' cp' => ?_)
    rw [show acc.length + 1 = (acc ++ [((0 : Int), t)]).length by simp]
    (conv => whnf); repeat ((first | refine tk1 ?_ | refine tk2 ?_ | refine tk3 ?_ | refine tk12 (fun _ => ?_) | refine tk4 ?_ | refine tk5 ?_ | refine tk6 ?_ | refine tk7 ?_ | refine tk8 ?_ | refine tk9 ?_ | refine tk10 (fun _ _ => ?_) | refine tk11 (fun _ => ?_) | refine tk13 ?_ | refine tk14 ?_); (conv => whnf))
    exact ⟨(k + 1, acc ++ [(0, t)], A', cp'), ⟨by dsimp only; omega, by dsimp only; rw [List.length_append]; simp only [List.length_singleton]; omega, by dsimp only; rw [← hI]; cases placesG (R.drop (k + 1)) (T.drop (k + 1)) <;> simp⟩, rfl, Cv.into (by (try dsimp only); repeat' (first | with_reducible exact Cv.refl | with_reducible exact Cv.left | with_reducible exact Cv.right | with_reducible exact Cv.nil | (with_reducible apply Cv.cons; focus ((repeat (first | with_reducible exact Pick.here | with_reducible apply Pick.skip)); done)) | (apply Cv.cons; focus ((repeat (first | exact Pick.here | apply Pick.skip)); done)) | exact Cv.nil | exact Cv.refl | exact Cv.left | exact Cv.right | refine Cv.skip ?_)), by dsimp only; omega⟩
end Go.Proofs.YtnaeeklnlddcaaaDoor.Vex
/- The tree of pages in memory: nodes. -/
namespace Go.Proofs.YtnaeeklnlddcaaaDoor.Vex
open Go Go.RowKit
set_option maxRecDepth 100000
set_option linter.unusedSectionVars false
variable {gI : GI} [HasMax gI] [HasErr gI]

/-- A node: its box, its two maps, the keys that lead to it, its pages by their methods, and what stands behind it. -/
structure Nd where
  b : Nat
  pm : Nat
  nm : Nat
  c : List Plk
  pages : List (List UInt8 × Value)
  next : List (Plk × Value)
def Nd.hd (n : Nd) : Hp := [.box n.b [.map (some n.pm), .map (some n.nm)] 47, .obj n.pm (mobj str n.pages), .obj n.nm (mobj plkV n.next)]
def nodesH (ns : List Nd) : Hp := ns.flatMap Nd.hd
theorem nodesH_mem {ns : List Nd} {n : Nd} (h : n ∈ ns) : ∀ x ∈ n.hd, x ∈ nodesH ns := fun _ hx => List.mem_flatMap.2 ⟨n, h, hx⟩
theorem Ld.mem {c : Ctx} {H : Hp} {b i : Nat} {vs : List Value} {t : TypeId} {v : Value} {K : Value → Prop} (hm : Ent.box b vs t ∈ H) (h : vs[i]? = some v) (k : K v) : Ld c H (.pointer (some ⟨b, i, none⟩)) none K :=
  ⟨v, _, rfl, fun w hw => by
    have hb : w.heap[b]? = some (.cells ⟨vs⟩ t (0, 0)) := (hw.own _ hm).1
    show w.cell? ⟨b, i, none⟩ = some v
    rw [cell_of_row w b i ⟨vs⟩ t (0, 0) hb]
    simpa using h, k⟩
theorem objAt_mem {c : Ctx} {H : Hp} {b : Nat} {o : Obj} (hm : Ent.obj b o ∈ H) : ∀ w, St c H w → w.heap[b]? = some o := fun _ hw => (hw.own _ hm).1
structure MkM where
  b : Nat
  pm : Nat
  nm : Nat
def MkM.nd (x : MkM) (c : List Plk) : Nd := ⟨x.b, x.pm, x.nm, c, [], []⟩
theorem rmade_f (c : List Plk) : FnT Tryd.prog gI 19 [] (fun _ => True) (fun x : MkM => .pointer (some ⟨x.b, 0, none⟩)) (fun _ => True) (fun x => (x.nd c).hd) (fun _ => []) := by
  refine FnE.of tys_ok Tryd.func19 rfl (by kernel_rfl) rfl rfl ?_; intro w hG hP
  (conv => whnf); repeat ((first | refine tk1 ?_ | refine tk2 ?_ | refine tk3 ?_ | refine tk12 (fun _ => ?_) | refine tk4 ?_ | refine tk5 ?_ | refine tk6 ?_ | refine tk7 ?_ | refine tk8 ?_ | refine tk9 ?_ | refine tk10 (fun _ _ => ?_) | refine tk11 (fun _ => ?_) | refine tk13 ?_ | refine tk14 ?_); (conv => whnf))
  refine Oth.mkMap str (fun pm => ?_)
  (conv => whnf); repeat ((first | refine tk1 ?_ | refine tk2 ?_ | refine tk3 ?_ | refine tk12 (fun _ => ?_) | refine tk4 ?_ | refine tk5 ?_ | refine tk6 ?_ | refine tk7 ?_ | refine tk8 ?_ | refine tk9 ?_ | refine tk10 (fun _ _ => ?_) | refine tk11 (fun _ => ?_) | refine tk13 ?_ | refine tk14 ?_); (conv => whnf))
  refine Oth.mkMap plkV (fun nm => ?_)
  (conv => whnf); repeat ((first | refine tk1 ?_ | refine tk2 ?_ | refine tk3 ?_ | refine tk12 (fun _ => ?_) | refine tk4 ?_ | refine tk5 ?_ | refine tk6 ?_ | refine tk7 ?_ | refine tk8 ?_ | refine tk9 ?_ | refine tk10 (fun _ _ => ?_) | refine tk11 (fun _ => ?_) | refine tk13 ?_ | refine tk14 ?_); (conv => whnf))
  rename_i b
  exact fun w' hw' => ⟨⟨b, pm, nm⟩, rfl, trivial, newH.into hw' (Cv.into (by (try dsimp only); repeat' (first | with_reducible exact Cv.refl | with_reducible exact Cv.left | with_reducible exact Cv.right | with_reducible exact Cv.nil | (with_reducible apply Cv.cons; focus ((repeat (first | with_reducible exact Pick.here | with_reducible apply Pick.skip)); done)) | (apply Cv.cons; focus ((repeat (first | exact Pick.here | apply Pick.skip)); done)) | exact Cv.nil | exact Cv.refl | exact Cv.left | exact Cv.right | refine Cv.skip ?_)))⟩
end Go.Proofs.YtnaeeklnlddcaaaDoor.Vex
/- Trees of pages as lists of nodes: what they say of pages. -/
namespace Go.Proofs.YtnaeeklnlddcaaaDoor.Vex
open Go Go.RowKit

def Nd.ptr (n : Nd) : Value := .pointer (some ⟨n.b, 0, none⟩)
/-- A list of nodes is a tree of pages: pg tells the page of a shape and a method. -/
structure TreeI (ns : List Nd) (pg : List Plk → List UInt8 → Option Int) : Prop where
  nodup : (ns.map Nd.c).Nodup
  next : ∀ n ∈ ns, ∀ p, (mget p n.next = none ∧ ∀ m ∈ ns, m.c ≠ n.c ++ [p]) ∨ (∃ m ∈ ns, m.c = n.c ++ [p] ∧ mget p n.next = some m.ptr)
  pages : ∀ n ∈ ns, ∀ m, mget m n.pages = (pg n.c m).map (.int .i64)
  cover : ∀ c m i, pg c m = some i → ∃ n ∈ ns, n.c = c
  pref : ∀ n ∈ ns, ∀ d p, n.c = d ++ [p] → ∃ m ∈ ns, m.c = d
  keys : ∀ n ∈ ns, (n.pages.map Prod.fst).Nodup
theorem mput_keys {α : Type} [DecidableEq α] (k : α) (v : Value) : ∀ l : List (α × Value), (l.map Prod.fst).Nodup → ((mput k v l).map Prod.fst).Nodup ∧ ∀ a, a ∈ (mput k v l).map Prod.fst → a = k ∨ a ∈ l.map Prod.fst
  | [], _ => ⟨by simp [mput], fun a ha => by simp [mput] at ha; exact .inl ha⟩
  | p :: r, h => by
    rw [List.map_cons, List.nodup_cons] at h
    unfold mput
    by_cases hk : k = p.1
    · rw [if_pos hk, List.map_cons, List.nodup_cons]
      exact ⟨⟨by rw [hk]; exact h.1, h.2⟩, fun a ha => by
        rcases List.mem_cons.1 ha with e | e
        · exact .inl e
        · exact .inr (List.mem_cons_of_mem _ e)⟩
    · rw [if_neg hk, List.map_cons, List.nodup_cons]
      obtain ⟨h1, h2⟩ := mput_keys k v r h.2
      refine ⟨⟨fun hm => ?_, h1⟩, fun a ha => ?_⟩
      · rcases h2 _ hm with e | e
        · exact hk e.symm
        · exact h.1 e
      · rcases List.mem_cons.1 ha with e | e
        · exact .inr (by rw [e]; exact List.mem_cons_self ..)
        · rcases h2 a e with e | e
          · exact .inl e
          · exact .inr (List.mem_cons_of_mem _ e)
theorem tree_root (n : Nd) (hc : n.c = []) (hp : n.pages = []) (hn : n.next = []) : TreeI [n] (fun _ _ => none) where
  nodup := by simp
  next := fun a ha p => .inl ⟨by rw [List.mem_singleton.1 ha, hn]; rfl, fun m hm => by rw [List.mem_singleton.1 hm, List.mem_singleton.1 ha, hc]; simp⟩
  pages := fun a ha m => by rw [List.mem_singleton.1 ha, hp]; rfl
  cover := fun _ _ _ h => by cases h
  pref := fun a ha d p h => by rw [List.mem_singleton.1 ha, hc] at h; simp at h
  keys := fun a ha => by rw [List.mem_singleton.1 ha, hp]; simp
/-- A child more. -/
theorem tree_child {us bs : List Nd} {n : Nd} {pg : List Plk → List UInt8 → Option Int} (h : TreeI (us ++ n :: bs) pg) (p : Plk) (hp : mget p n.next = none) (z : Nd) (hz : z.c = n.c ++ [p]) (hz1 : z.pages = []) (hz2 : z.next = []) :
    TreeI (us ++ { n with next := mput p z.ptr n.next } :: (bs ++ [z])) pg := by
  have hn : n ∈ us ++ n :: bs := List.mem_append_right _ (List.mem_cons_self ..)
  have hno : ∀ m ∈ us ++ n :: bs, m.c ≠ n.c ++ [p] := by
    rcases h.next n hn p with ⟨_, h2⟩ | ⟨m, _, _, h2⟩
    · exact h2
    · rw [hp] at h2; cases h2
  have hnd := h.nodup
  rw [List.map_append, List.map_cons, List.nodup_append] at hnd
  have hda : ∀ m ∈ us, m.c ≠ n.c := fun m hm => hnd.2.2 m.c (List.mem_map_of_mem hm) n.c (List.mem_cons_self ..)
  have hdb : ∀ m ∈ bs, m.c ≠ n.c := fun m hm e => (List.nodup_cons.1 hnd.2.1).1 (e ▸ List.mem_map_of_mem hm)
  obtain ⟨n', hn'⟩ : ∃ n', ({ n with next := mput p z.ptr n.next } : Nd) = n' := ⟨_, rfl⟩
  have hc : n'.c = n.c := by rw [← hn']
  have hpg : n'.pages = n.pages := by rw [← hn']
  have hnx : n'.next = mput p z.ptr n.next := by rw [← hn']
  have hptr : n'.ptr = n.ptr := by rw [← hn']; rfl
  rw [hn']
  clear hn'
  have inv : ∀ m, m ∈ us ++ n' :: (bs ++ [z]) ↔ (m ∈ us ∨ m = n' ∨ m ∈ bs ∨ m = z) := fun m => by simp [List.mem_append, List.mem_cons]
  have old : ∀ m ∈ us ++ n :: bs, ∃ m' ∈ us ++ n' :: (bs ++ [z]), m'.c = m.c ∧ m'.ptr = m.ptr := fun m hm => by
    rcases List.mem_append.1 hm with hm | hm
    · exact ⟨m, (inv m).2 (.inl hm), rfl, rfl⟩
    · rcases List.mem_cons.1 hm with rfl | hm
      · exact ⟨n', (inv n').2 (.inr (.inl rfl)), hc, hptr⟩
      · exact ⟨m, (inv m).2 (.inr (.inr (.inl hm))), rfl, rfl⟩
  have new : ∀ m' ∈ us ++ n' :: (bs ++ [z]), m' = z ∨ ∃ m ∈ us ++ n :: bs, m'.c = m.c ∧ m'.pages = m.pages ∧ ((m' = m ∧ m.c ≠ n.c) ∨ (m' = n' ∧ m = n)) := fun m' hm => by
    rcases (inv m').1 hm with hm | rfl | hm | rfl
    · exact .inr ⟨m', List.mem_append_left _ hm, rfl, rfl, .inl ⟨rfl, hda _ hm⟩⟩
    · exact .inr ⟨n, hn, hc, hpg, .inr ⟨rfl, rfl⟩⟩
    · exact .inr ⟨m', List.mem_append_right _ (List.mem_cons_of_mem _ hm), rfl, rfl, .inl ⟨rfl, hdb _ hm⟩⟩
    · exact .inl rfl
  have zin : z ∈ us ++ n' :: (bs ++ [z]) := (inv z).2 (.inr (.inr (.inr rfl)))
  have nope : ∀ a q, (∀ m ∈ us ++ n :: bs, m.c ≠ a ++ [q]) → z.c ≠ a ++ [q] → ∀ m ∈ us ++ n' :: (bs ++ [z]), m.c ≠ a ++ [q] := fun a q h1 h2 m hm => by
    rcases new m hm with rfl | ⟨m0, hm0, e, _⟩
    · exact h2
    · rw [e]; exact h1 m0 hm0
  refine ⟨?_, fun a ha q => ?_, fun a ha m => ?_, fun c m i hi => ?_, fun a ha d q hd => ?_, fun a ha => ?_⟩
  · have e : (us ++ n' :: (bs ++ [z])).map Nd.c = (us ++ n :: bs).map Nd.c ++ [z.c] := by simp [hc]
    rw [e, List.nodup_append]
    refine ⟨h.nodup, by simp, fun a ha b hb => ?_⟩
    obtain ⟨m, hm, rfl⟩ := List.mem_map.1 ha
    rw [List.mem_singleton.1 hb, hz]
    exact hno m hm
  · rcases new a ha with rfl | ⟨a0, ha0, hac, _, ha1⟩
    · refine .inl ⟨by rw [hz2]; rfl, fun m hm e => ?_⟩
      rcases new m hm with rfl | ⟨m0, hm0, e0, _⟩
      · have := congrArg List.length e
        simp at this
      · rw [e0] at e
        obtain ⟨t, ht, e1⟩ := h.pref m0 hm0 _ q e
        exact hno t ht (e1.trans hz)
    rcases ha1 with ⟨rfl, hne⟩ | ⟨rfl, rfl⟩
    · rcases h.next a ha0 q with ⟨h1, h2⟩ | ⟨m, hm, h1, h2⟩
      · refine .inl ⟨h1, nope _ _ h2 fun e => ?_⟩
        rw [hz] at e
        exact hne (List.append_inj_left' e rfl).symm
      · obtain ⟨m', hm', e1, e2⟩ := old m hm
        exact .inr ⟨m', hm', e1.trans h1, by rw [h2, e2]⟩
    · rw [hnx, look_upd, hc]
      by_cases hq : q = p
      · subst hq
        rw [if_pos rfl]
        exact .inr ⟨z, zin, hz, rfl⟩
      · rw [if_neg hq]
        rcases h.next a0 ha0 q with ⟨h1, h2⟩ | ⟨m, hm, h1, h2⟩
        · refine .inl ⟨h1, nope _ _ h2 fun e => ?_⟩
          rw [hz] at e
          have := List.append_inj_right' e rfl
          exact hq (by simpa using this.symm)
        · obtain ⟨m', hm', e1, e2⟩ := old m hm
          exact .inr ⟨m', hm', e1.trans h1, by rw [h2, e2]⟩
  · rcases new a ha with rfl | ⟨a0, ha0, hac, hap, _⟩
    · rw [hz1]
      cases hi : pg a.c m with
      | none => rfl
      | some i =>
        obtain ⟨t, ht, e⟩ := h.cover _ _ _ hi
        exact absurd (e.trans hz) (hno t ht)
    · rw [hap, hac]
      exact h.pages a0 ha0 m
  · obtain ⟨t, ht, e⟩ := h.cover _ _ _ hi
    obtain ⟨t', ht', e1, _⟩ := old t ht
    exact ⟨t', ht', e1.trans e⟩
  · rcases new a ha with rfl | ⟨a0, ha0, hac, _, _⟩
    · rw [hz] at hd
      have := List.append_inj_left' hd rfl
      exact ⟨n', (inv n').2 (.inr (.inl rfl)), hc.trans this⟩
    · rw [hac] at hd
      obtain ⟨t, ht, e⟩ := h.pref a0 ha0 d q hd
      obtain ⟨t', ht', e1, _⟩ := old t ht
      exact ⟨t', ht', e1.trans e⟩
  · rcases new a ha with rfl | ⟨a0, ha0, _, hap, _⟩
    · rw [hz1]; simp
    · rw [hap]; exact h.keys a0 ha0
/-- A page more. -/
theorem tree_page {us bs : List Nd} {n : Nd} {pg : List Plk → List UInt8 → Option Int} (h : TreeI (us ++ n :: bs) pg) (m : List UInt8) (i : Int) :
    TreeI (us ++ { n with pages := mput m (.int .i64 i) n.pages } :: bs) (fun c x => if c = n.c ∧ x = m then some i else pg c x) := by
  have hn : n ∈ us ++ n :: bs := List.mem_append_right _ (List.mem_cons_self ..)
  have hnd := h.nodup
  rw [List.map_append, List.map_cons, List.nodup_append] at hnd
  have hda : ∀ m ∈ us, m.c ≠ n.c := fun m hm => hnd.2.2 m.c (List.mem_map_of_mem hm) n.c (List.mem_cons_self ..)
  have hdb : ∀ m ∈ bs, m.c ≠ n.c := fun m hm e => (List.nodup_cons.1 hnd.2.1).1 (e ▸ List.mem_map_of_mem hm)
  obtain ⟨n', hn'⟩ : ∃ n', ({ n with pages := mput m (.int .i64 i) n.pages } : Nd) = n' := ⟨_, rfl⟩
  have hc : n'.c = n.c := by rw [← hn']
  have hpg : n'.pages = mput m (.int .i64 i) n.pages := by rw [← hn']
  have hnx : n'.next = n.next := by rw [← hn']
  have hptr : n'.ptr = n.ptr := by rw [← hn']; rfl
  rw [hn']
  clear hn'
  have inv : ∀ m, m ∈ us ++ n' :: bs ↔ (m ∈ us ∨ m = n' ∨ m ∈ bs) := fun m => by simp [List.mem_append, List.mem_cons]
  have old : ∀ m ∈ us ++ n :: bs, ∃ m' ∈ us ++ n' :: bs, m'.c = m.c ∧ m'.ptr = m.ptr := fun m hm => by
    rcases List.mem_append.1 hm with hm | hm
    · exact ⟨m, (inv m).2 (.inl hm), rfl, rfl⟩
    · rcases List.mem_cons.1 hm with rfl | hm
      · exact ⟨n', (inv n').2 (.inr (.inl rfl)), hc, hptr⟩
      · exact ⟨m, (inv m).2 (.inr (.inr hm)), rfl, rfl⟩
  have new : ∀ m' ∈ us ++ n' :: bs, ∃ m ∈ us ++ n :: bs, m'.c = m.c ∧ m'.next = m.next ∧ ((m' = m ∧ m.c ≠ n.c) ∨ (m' = n' ∧ m = n)) := fun m' hm => by
    rcases (inv m').1 hm with hm | rfl | hm
    · exact ⟨m', List.mem_append_left _ hm, rfl, rfl, .inl ⟨rfl, hda _ hm⟩⟩
    · exact ⟨n, hn, hc, hnx, .inr ⟨rfl, rfl⟩⟩
    · exact ⟨m', List.mem_append_right _ (List.mem_cons_of_mem _ hm), rfl, rfl, .inl ⟨rfl, hdb _ hm⟩⟩
  refine ⟨?_, fun a ha q => ?_, fun a ha x => ?_, fun c x j hj => ?_, fun a ha d q hd => ?_, fun a ha => ?_⟩
  · have e : (us ++ n' :: bs).map Nd.c = (us ++ n :: bs).map Nd.c := by simp [hc]
    rw [e]
    exact h.nodup
  · obtain ⟨a0, ha0, hac, han, _⟩ := new a ha
    rw [han, hac]
    rcases h.next a0 ha0 q with ⟨h1, h2⟩ | ⟨t, ht, h1, h2⟩
    · refine .inl ⟨h1, fun b hb => ?_⟩
      obtain ⟨b0, hb0, hbc, _⟩ := new b hb
      rw [hbc]
      exact h2 b0 hb0
    · obtain ⟨t', ht', e1, e2⟩ := old t ht
      exact .inr ⟨t', ht', e1.trans h1, by rw [h2, e2]⟩
  · obtain ⟨a0, ha0, hac, _, ha1⟩ := new a ha
    rcases ha1 with ⟨rfl, hne⟩ | ⟨rfl, rfl⟩
    · rw [if_neg (fun hh => hne hh.1)]
      exact h.pages a ha0 x
    · rw [hpg, look_upd, hc]
      by_cases hx : x = m
      · rw [if_pos hx, if_pos ⟨rfl, hx⟩]; rfl
      · rw [if_neg hx, if_neg (fun hh => hx hh.2)]
        exact h.pages a0 ha0 x
  · split at hj
    · rename_i hh
      exact ⟨n', (inv n').2 (.inr (.inl rfl)), hc.trans hh.1.symm⟩
    · obtain ⟨t, ht, e⟩ := h.cover _ _ _ hj
      obtain ⟨t', ht', e1, _⟩ := old t ht
      exact ⟨t', ht', e1.trans e⟩
  · obtain ⟨a0, ha0, hac, _⟩ := new a ha
    rw [hac] at hd
    obtain ⟨t, ht, e⟩ := h.pref a0 ha0 d q hd
    obtain ⟨t', ht', e1, _⟩ := old t ht
    exact ⟨t', ht', e1.trans e⟩
  · obtain ⟨a0, ha0, _, _, ha1⟩ := new a ha
    rcases ha1 with ⟨rfl, _⟩ | ⟨rfl, rfl⟩
    · exact h.keys a ha0
    · rw [hpg]; exact (mput_keys m _ _ (h.keys a0 ha0)).1
end Go.Proofs.YtnaeeklnlddcaaaDoor.Vex
/- The laws of routes, over lists: the order of pages counts for nothing; a literal path leads to its page. No program in sight. -/
namespace Go.Proofs.YtnaeeklnlddcaaaDoor.Vex

/-- Parameters of a path at a page's places: the segments are those from there on. -/
def paramsG : List Plc → List (List UInt8) → List Fld
  | [], _ => []
  | p :: r, ss => (if p.1 = 1 then [(p.2, ss.headD [])] else if p.1 = 2 then [(p.2, Lib.join ss [47])] else []) ++ paramsG r ss.tail
structure Fnd where
  n : Int
  ps : List Fld
  st : Int
  e : Int
def placesAt (l : List Rpg) (n : Int) : List Plc := ((l[n.toNat]?).bind fun g => placesOf g.p).getD []
/-- What is found. -/
def findO (l : List Rpg) (m path : List UInt8) : Fnd :=
  if grownE l ≠ 0 then ⟨0, [], 0, grownE l⟩
  else if pathOf path = false then ⟨-1, [], 404, 0⟩
  else if (findC l (methodG m) (cands (segs path)) 404).1 < 0 then ⟨-1, [], (findC l (methodG m) (cands (segs path)) 404).2, 0⟩
  else ⟨(findC l (methodG m) (cands (segs path)) 404).1, paramsG (placesAt l (findC l (methodG m) (cands (segs path)) 404).1) (segs path), 200, 0⟩

theorem pageAt_some {l : List Rpg} {c : List Plc} {m : List UInt8} {i : Nat} (h : pageAt l c m = some i) : ∃ g, l[i]? = some g ∧ shapeOf g = c ∧ g.m = m := by
  unfold pageAt at h
  rw [List.findIdx?_map] at h
  obtain ⟨h1, h2, _⟩ := List.findIdx?_eq_some_iff_getElem.1 h
  refine ⟨l[i], List.getElem?_eq_getElem h1, ?_⟩
  have h3 : slotOf l[i] = (c, m) := by simpa using h2
  exact ⟨(Prod.mk.inj h3).1, (Prod.mk.inj h3).2⟩
theorem pageAt_none {l : List Rpg} {c : List Plc} {m : List UInt8} (h : pageAt l c m = none) : ∀ g ∈ l, slotOf g ≠ (c, m) := by
  unfold pageAt at h
  rw [List.findIdx?_map, List.findIdx?_eq_none_iff] at h
  intro g hg e
  have := h g hg
  simp [e] at this
theorem findC_cases (l : List Rpg) (m : List UInt8) : ∀ (cs : List (List Plc)) (st : Int), (findC l m cs st).1 = -1 ∨ ∃ (i : Nat) (g : Rpg), (findC l m cs st).1 = i ∧ l[i]? = some g ∧ shapeOf g ∈ cs ∧ g.m = m
  | [], _ => .inl rfl
  | c :: r, st => by
    unfold findC
    cases h : pageAt l c m with
    | some i =>
      obtain ⟨g, h1, h2, h3⟩ := pageAt_some h
      exact .inr ⟨i, g, rfl, h1, by rw [h2]; exact List.mem_cons_self .., h3⟩
    | none =>
      rcases findC_cases l m r (if anyAt l c then 405 else st) with h1 | ⟨i, g, h1, h2, h3, h4⟩
      · exact .inl h1
      · exact .inr ⟨i, g, h1, h2, List.mem_cons_of_mem _ h3, h4⟩
theorem slotsOK_nodup : ∀ l : List Rpg, slotsOK l = true ↔ (l.map slotOf).Nodup
  | [] => by simp [slotsOK]
  | g :: r => by
    unfold slotsOK
    rw [List.map_cons, List.nodup_cons, Bool.and_eq_true, slotsOK_nodup r]
    simp
theorem grownE_perm {l t : List Rpg} (h : l.Perm t) : grownE l = grownE t := by
  unfold grownE
  rw [h.length_eq]
  have h1 : l.all pgOK = t.all pgOK := by
    rw [Bool.eq_iff_iff, List.all_eq_true, List.all_eq_true]
    exact ⟨fun a x hx => a x (h.mem_iff.2 hx), fun a x hx => a x (h.mem_iff.1 hx)⟩
  have h2 : slotsOK l = slotsOK t := by
    rw [Bool.eq_iff_iff, slotsOK_nodup, slotsOK_nodup]
    exact (h.map slotOf).nodup_iff
  rw [h1, h2]
theorem nodup_slot {l : List Rpg} (h : (l.map slotOf).Nodup) {a b : Rpg} (ha : a ∈ l) (hb : b ∈ l) (e : slotOf a = slotOf b) : a = b := by
  induction l with
  | nil => cases ha
  | cons x r ih =>
    rw [List.map_cons, List.nodup_cons] at h
    rcases List.mem_cons.1 ha with h1 | h1
    · rcases List.mem_cons.1 hb with h2 | h2
      · rw [h1, h2]
      · exact absurd (by rw [← h1, e]; exact List.mem_map_of_mem h2) h.1
    · rcases List.mem_cons.1 hb with h2 | h2
      · exact absurd (by rw [← h2, ← e]; exact List.mem_map_of_mem h1) h.1
      · exact ih h.2 h1 h2
theorem anyAt_perm {l t : List Rpg} (h : l.Perm t) (c : List Plc) : anyAt l c = anyAt t c := by
  unfold anyAt
  rw [Bool.eq_iff_iff, List.any_eq_true, List.any_eq_true]
  exact ⟨fun ⟨x, hx, hc⟩ => ⟨x, h.mem_iff.1 hx, hc⟩, fun ⟨x, hx, hc⟩ => ⟨x, h.mem_iff.2 hx, hc⟩⟩
theorem findC_perm {l t : List Rpg} (h : l.Perm t) (hn : (l.map slotOf).Nodup) (m : List UInt8) : ∀ (cs : List (List Plc)) (st : Int), (findC l m cs st).2 = (findC t m cs st).2 ∧
    (((findC l m cs st).1 = -1 ∧ (findC t m cs st).1 = -1) ∨ ∃ (i j : Nat) (g : Rpg), (findC l m cs st).1 = i ∧ (findC t m cs st).1 = j ∧ l[i]? = some g ∧ t[j]? = some g)
  | [], _ => ⟨rfl, .inl ⟨rfl, rfl⟩⟩
  | c :: r, st => by
    unfold findC
    rw [← anyAt_perm h c]
    cases h1 : pageAt l c m with
    | none =>
      cases h2 : pageAt t c m with
      | none => exact findC_perm h hn m r _
      | some j =>
        obtain ⟨g, h3, h4, h5⟩ := pageAt_some h2
        exact absurd (show slotOf g = (c, m) by unfold slotOf; rw [h4, h5]) (pageAt_none h1 g (h.mem_iff.2 (List.mem_of_getElem? h3)))
    | some i =>
      obtain ⟨g, h3, h4, h5⟩ := pageAt_some h1
      cases h2 : pageAt t c m with
      | none => exact absurd (show slotOf g = (c, m) by unfold slotOf; rw [h4, h5]) (pageAt_none h2 g (h.mem_iff.1 (List.mem_of_getElem? h3)))
      | some j =>
        obtain ⟨g', h6, h7, h8⟩ := pageAt_some h2
        have e : g = g' := nodup_slot hn (List.mem_of_getElem? h3) (h.mem_iff.2 (List.mem_of_getElem? h6)) (by unfold slotOf; rw [h4, h5, h7, h8])
        subst e
        exact ⟨rfl, .inr ⟨i, j, g, rfl, rfl, h3, h6⟩⟩
/-- The order of pages counts for nothing. -/
theorem order_law {l t : List Rpg} (h : l.Perm t) (m path : List UInt8) : (findO l m path).e = (findO t m path).e ∧ ((findO l m path).e ≠ 0 → (findO l m path).n = 0 ∧ (findO l m path).ps = []) ∧
    ((findO l m path).e = 0 → (findO l m path).st = (findO t m path).st ∧ (findO l m path).ps = (findO t m path).ps ∧
      (((findO l m path).n = -1 ∧ (findO t m path).n = -1) ∨ ∃ (i j : Nat) (g : Rpg), (findO l m path).n = i ∧ (findO t m path).n = j ∧ l[i]? = some g ∧ t[j]? = some g)) := by
  unfold findO
  rw [← grownE_perm h]
  by_cases hg : grownE l = 0
  rotate_left
  · rw [if_pos hg, if_pos hg]
    exact ⟨rfl, fun _ => ⟨rfl, rfl⟩, fun h => absurd h hg⟩
  rw [if_neg (not_not_intro hg), if_neg (not_not_intro hg)]
  have hn : (l.map slotOf).Nodup := by
    rw [← slotsOK_nodup]
    unfold grownE at hg
    cases hs : slotsOK l
    · rw [hs] at hg
      split at hg
      · cases hg
      · split at hg <;> cases hg
    · rfl
  by_cases hp : pathOf path = false
  · rw [if_pos hp, if_pos hp]
    exact ⟨rfl, fun h => absurd rfl h, fun _ => ⟨rfl, rfl, .inl ⟨rfl, rfl⟩⟩⟩
  rw [if_neg hp, if_neg hp]
  obtain ⟨h1, h2⟩ := findC_perm h hn (methodG m) (cands (segs path)) 404
  generalize findC l (methodG m) (cands (segs path)) 404 = a at *
  generalize findC t (methodG m) (cands (segs path)) 404 = b at *
  obtain ⟨an, ast⟩ := a
  obtain ⟨bn, bst⟩ := b
  dsimp only at h1 h2 ⊢
  subst h1
  rcases h2 with ⟨rfl, rfl⟩ | ⟨i, j, g, rfl, rfl, h3, h4⟩
  · rw [if_pos (by decide), if_pos (by decide)]
    exact ⟨rfl, fun h => absurd rfl h, fun _ => ⟨rfl, rfl, .inl ⟨rfl, rfl⟩⟩⟩
  · rw [if_neg (by omega), if_neg (by omega)]
    refine ⟨rfl, fun h => absurd rfl h, fun _ => ⟨rfl, ?_, .inr ⟨i, j, g, rfl, rfl, h3, h4⟩⟩⟩
    unfold placesAt
    rw [Int.toNat_natCast, Int.toNat_natCast, h3, h4]

/-! ## Literal paths -/
/-- No place begins with one of the signs. -/
def litG : Bool → List UInt8 → Bool
  | _, [] => true
  | b, x :: r => !(b && (decide (x = 42) || decide (x = 58))) && litG (decide (x = 47)) r
theorem lit_split : ∀ (b : Bool) (q : List UInt8), litG b q = true → ∃ h t, splitB 47 q = h :: t ∧ (b = true → h.head? ≠ some 42 ∧ h.head? ≠ some 58) ∧ ∀ s ∈ t, s.head? ≠ some 42 ∧ s.head? ≠ some 58
  | b, [], _ => ⟨[], [], rfl, fun _ => ⟨by simp, by simp⟩, fun s h => by cases h⟩
  | b, x :: r, h => by
    unfold litG at h
    rw [Bool.and_eq_true] at h
    obtain ⟨h1, h2⟩ := h
    obtain ⟨u, t, e, h3, h4⟩ := lit_split _ r h2
    unfold splitB
    by_cases hx : x = 47
    · rw [if_pos hx, e]
      rw [decide_eq_true hx] at h3
      refine ⟨[], u :: t, rfl, fun _ => ⟨by simp, by simp⟩, fun s hs => ?_⟩
      rcases List.mem_cons.1 hs with rfl | hs
      · exact h3 rfl
      · exact h4 s hs
    · rw [if_neg hx, e]
      refine ⟨x :: u, t, rfl, fun hb => ?_, h4⟩
      subst hb
      simp only [Bool.true_and, Bool.not_eq_true', Bool.or_eq_false_iff, decide_eq_false_iff_not] at h1
      simp only [List.head?_cons, ne_eq, Option.some.injEq]
      exact h1
theorem placesG_lit : ∀ (R T : List (List UInt8)), R.length = T.length → (∀ s ∈ R, s.head? ≠ some 42 ∧ s.head? ≠ some 58) → placesG R T = some (T.map fun t => ((0 : Int), t))
  | [], [], _, _ => rfl
  | [], _ :: _, h, _ => by cases h
  | _ :: _, [], h, _ => by cases h
  | s :: r, t :: ts, hl, h => by
    have hs := h s (List.mem_cons_self ..)
    unfold placesG placeOf
    rw [if_neg (fun e => hs.1 e.1), if_neg (fun e => hs.2 e.1), if_neg (fun e => e.elim hs.1 hs.2)]
    simp only [List.headD_cons, List.tail_cons]
    rw [placesG_lit r ts (by simpa using hl) fun x hx => h x (List.mem_cons_of_mem _ hx)]
    rfl
theorem places_lit {p : List UInt8} (hp : pathOf p = true) (hl : p.length ≤ 4096) (h : litG false p = true) : placesOf p = some ((segs p).map fun t => ((0 : Int), t)) := by
  unfold placesOf
  rw [if_pos ⟨hp, hl⟩]
  obtain ⟨r, rfl⟩ := path_head hp
  rw [List.drop_succ_cons, List.drop_zero]
  have h2 : litG true r = true := by
    unfold litG at h
    rw [Bool.and_eq_true] at h
    exact h.2
  obtain ⟨u, t, e, h3, h4⟩ := lit_split true r h2
  refine placesG_lit _ _ (by unfold segs; rw [List.length_map]; rfl) fun s hs => ?_
  rw [e] at hs
  rcases List.mem_cons.1 hs with rfl | hs
  · exact h3 rfl
  · exact h4 s hs
theorem cands_lit : ∀ ss : List (List UInt8), ∃ cs, cands ss = (ss.map fun t => ((0 : Int), t)) :: cs
  | [] => ⟨[], rfl⟩
  | s :: r => by
    obtain ⟨cs, h⟩ := cands_lit r
    unfold cands
    rw [h]
    exact ⟨_, rfl⟩
theorem paramsG_lit : ∀ (T ss : List (List UInt8)), paramsG (T.map fun t => ((0 : Int), t)) ss = []
  | [], _ => rfl
  | t :: r, ss => by
    rw [List.map_cons, paramsG, if_neg (show ¬ ((0 : Int) = 1) by decide), if_neg (show ¬ ((0 : Int) = 2) by decide), paramsG_lit r]
    rfl
theorem key_lit (T : List (List UInt8)) : (T.map fun t => ((0 : Int), t)).map keyP = T.map fun t => ((0 : Int), t) := by
  rw [List.map_map]
  rfl
theorem grown_zero {l : List Rpg} (h : grownE l = 0) : l.length ≤ 32 ∧ (∀ g ∈ l, pgOK g = true) ∧ (l.map slotOf).Nodup := by
  unfold grownE at h
  split at h
  · cases h
  split at h
  · split at h
    · rename_i h1 h2 h3
      exact ⟨by omega, List.all_eq_true.1 h2, (slotsOK_nodup l).1 h3⟩
    · cases h
  · cases h
theorem pgOK_is {g : Rpg} (h : pgOK g = true) : (∃ ls, placesOf g.p = some ls) ∧ pathOf g.p = true ∧ g.p.length ≤ 4096 ∧ methodsR.contains g.m = true := by
  unfold pgOK at h
  rw [Bool.and_eq_true] at h
  obtain ⟨ls, hls⟩ := Option.isSome_iff_exists.1 h.1
  refine ⟨⟨ls, hls⟩, ?_⟩
  unfold placesOf at hls
  split at hls
  · rename_i hh
    exact ⟨hh.1, hh.2, h.2⟩
  · cases hls
theorem methodG_page {m : List UInt8} (h : methodsR.contains m = true) : methodG m = m := by
  unfold methodG
  rw [if_neg]
  intro e
  rw [e] at h
  revert h
  decide
theorem pageAt_mem {l : List Rpg} (hn : (l.map slotOf).Nodup) {k : Nat} {g : Rpg} (h : l[k]? = some g) : pageAt l (shapeOf g) g.m = some k := by
  obtain ⟨hk, rfl⟩ := List.getElem?_eq_some_iff.1 h
  unfold pageAt
  rw [List.findIdx?_map, List.findIdx?_eq_some_iff_getElem]
  refine ⟨hk, by simp [slotOf], fun j hj e => ?_⟩
  have h1 : slotOf l[j] = slotOf l[k] := by simpa [slotOf] using e
  have := List.pairwise_iff_getElem.1 hn j k (by simp; omega) (by simpa using hk) hj
  simp only [List.getElem_map, ne_eq] at this
  exact this h1
/-- A literal path leads to the page that has it as its pattern. -/
theorem literal_law {l : List Rpg} {k : Nat} {g : Rpg} (hg : grownE l = 0) (hk : l[k]? = some g) (hl : litG false g.p = true) : findO l g.m g.p = ⟨k, [], 200, 0⟩ := by
  obtain ⟨_, h2, h3⟩ := grown_zero hg
  obtain ⟨_, hp, hpl, hm⟩ := pgOK_is (h2 g (List.mem_of_getElem? hk))
  have hpo := places_lit hp hpl hl
  have hs : shapeOf g = (segs g.p).map fun t => ((0 : Int), t) := by
    unfold shapeOf
    rw [hpo, Option.getD_some, key_lit]
  obtain ⟨cs, hc⟩ := cands_lit (segs g.p)
  have hf : (findC l (methodG g.m) (cands (segs g.p)) 404).1 = k := by
    rw [hc, methodG_page hm, ← hs, findC, pageAt_mem h3 hk]
  unfold findO
  rw [if_neg (not_not_intro hg), hp, if_neg (by decide), hf, if_neg (by omega)]
  unfold placesAt
  rw [Int.toNat_natCast, hk, Option.bind_some, hpo, Option.getD_some, paramsG_lit]
end Go.Proofs.YtnaeeklnlddcaaaDoor.Vex
/- Trees of pages: which nodes a path's segments meet; what is found along them. -/
namespace Go.Proofs.YtnaeeklnlddcaaaDoor.Vex
open Go Go.RowKit

/-- The node of a shape. -/
def lead (ns : List Nd) (c : List Plk) : Option Nd := ns.find? fun n => decide (n.c = c)
/-- The nodes at which segments may end, from a shape on. -/
def ways (ns : List Nd) (c : List Plk) (ss : List (List UInt8)) : List Nd := (cands ss).filterMap fun d => lead ns (c ++ d)
theorem lead_some {ns : List Nd} {c : List Plk} {n : Nd} (h : lead ns c = some n) : n ∈ ns ∧ n.c = c :=
  ⟨List.mem_of_find?_eq_some h, by simpa using List.find?_some h⟩
theorem lead_none {ns : List Nd} {c : List Plk} (h : lead ns c = none) : ∀ n ∈ ns, n.c ≠ c := fun n hn e => by
  have := List.find?_eq_none.1 h n hn
  simp [e] at this
section
variable {ns : List Nd} {pg : List Plk → List UInt8 → Option Int}
theorem TreeI.one (h : TreeI ns pg) {m n : Nd} (hm : m ∈ ns) (hn : n ∈ ns) (e : m.c = n.c) : m = n := by
  have hd := h.nodup
  clear h
  induction ns with
  | nil => cases hm
  | cons x r ih =>
    rw [List.map_cons, List.nodup_cons] at hd
    rcases List.mem_cons.1 hm with h1 | h1
    · rcases List.mem_cons.1 hn with h2 | h2
      · rw [h1, h2]
      · exact absurd (by rw [← h1, e]; exact List.mem_map_of_mem h2) hd.1
    · rcases List.mem_cons.1 hn with h2 | h2
      · exact absurd (by rw [← h2, ← e]; exact List.mem_map_of_mem h1) hd.1
      · exact ih h1 h2 hd.2
theorem TreeI.lead (h : TreeI ns pg) {n : Nd} (hn : n ∈ ns) : Vex.lead ns n.c = some n := by
  cases hl : Vex.lead ns n.c with
  | none => exact absurd rfl (lead_none hl n hn)
  | some m => rw [h.one (lead_some hl).1 hn (lead_some hl).2]
/-- No node, none behind it. -/
theorem TreeI.voidL (h : TreeI ns pg) {c : List Plk} (hc : ∀ m ∈ ns, m.c ≠ c) : ∀ (k : Nat) (d : List Plk), d.length = k → ∀ m ∈ ns, m.c ≠ c ++ d
  | 0, d, hk => by
    obtain rfl : d = [] := List.eq_nil_of_length_eq_zero hk
    simpa using hc
  | k + 1, d, hk => fun m hm e => by
    have hd : d ≠ [] := fun e => by rw [e] at hk; cases hk
    rw [← List.dropLast_concat_getLast hd, ← List.append_assoc] at e
    obtain ⟨t, ht, e2⟩ := h.pref m hm _ _ e
    exact TreeI.voidL h hc k d.dropLast (by rw [List.length_dropLast, hk]; rfl) t ht e2
theorem TreeI.void (h : TreeI ns pg) {c : List Plk} (hc : ∀ m ∈ ns, m.c ≠ c) (d : List Plk) : ∀ m ∈ ns, m.c ≠ c ++ d := h.voidL hc d.length d rfl
theorem ways_none (h : TreeI ns pg) {c : List Plk} (hc : ∀ m ∈ ns, m.c ≠ c) (ss : List (List UInt8)) : ways ns c ss = [] := by
  unfold ways
  rw [List.filterMap_eq_nil_iff]
  intro d _
  cases hl : lead ns (c ++ d) with
  | none => rfl
  | some m => exact absurd (lead_some hl).2 (h.void hc d m (lead_some hl).1)
theorem ways_nil (c : List Plk) : ways ns c [] = (lead ns c).toList := by
  unfold ways cands
  rw [List.filterMap_cons, List.append_nil]
  cases lead ns c <;> rfl
theorem ways_cons (c : List Plk) (s : List UInt8) (r : List (List UInt8)) : ways ns c (s :: r) = ways ns (c ++ [(0, s)]) r ++ (ways ns (c ++ [(1, [])]) r ++ (lead ns (c ++ [(2, [])])).toList) := by
  unfold ways
  rw [cands, List.filterMap_append, List.filterMap_append, List.filterMap_map, List.filterMap_map]
  have e : ∀ (p : Plk) (l : List (List Plk)), l.filterMap ((fun d => lead ns (c ++ d)) ∘ fun x => p :: x) = l.filterMap fun d => lead ns (c ++ [p] ++ d) := fun p l => by
    congr 1
    funext d
    simp
  have e2 : ([[((2 : Int), ([] : List UInt8))]] : List (List Plk)).filterMap (fun d => lead ns (c ++ d)) = (lead ns (c ++ [(2, [])])).toList := by
    rw [List.filterMap_cons]
    cases lead ns (c ++ [(2, [])]) <;> rfl
  rw [e, e, e2]
theorem ways_mem {c : List Plk} {ss : List (List UInt8)} {n : Nd} (h : n ∈ ways ns c ss) : n ∈ ns := by
  obtain ⟨d, _, hd⟩ := List.mem_filterMap.1 h
  exact (lead_some hd).1
end
/-- Nodes are met, as long as true comes of it. -/
inductive RunS {σ : Type} (Step : σ → Nd → σ → Bool → Prop) : List Nd → σ → σ → Bool → Prop
  | nil (s : σ) : RunS Step [] s s true
  | stop {n : Nd} {r : List Nd} {s s' : σ} : Step s n s' false → RunS Step (n :: r) s s' false
  | go {n : Nd} {r : List Nd} {s s1 s' : σ} {b : Bool} : Step s n s1 true → RunS Step r s1 s' b → RunS Step (n :: r) s s' b
theorem RunS.one {σ : Type} {Step : σ → Nd → σ → Bool → Prop} {n : Nd} {s s' : σ} {b : Bool} (h : Step s n s' b) : RunS Step [n] s s' b := by
  cases b
  · exact .stop h
  · exact .go h (.nil _)
theorem RunS.halt {σ : Type} {Step : σ → Nd → σ → Bool → Prop} {a : List Nd} {s s' : σ} (h : RunS Step a s s' false) (b : List Nd) : RunS Step (a ++ b) s s' false := by
  generalize hx : false = x at h
  induction h with
  | nil s => cases hx
  | stop h => exact .stop h
  | go h _ ih => exact .go h (ih hx)
theorem RunS.app {σ : Type} {Step : σ → Nd → σ → Bool → Prop} {a b : List Nd} {s s1 s' : σ} {x : Bool} (h : RunS Step a s s1 true) (k : RunS Step b s1 s' x) : RunS Step (a ++ b) s s' x := by
  generalize hx : true = y at h
  induction h with
  | nil s => exact k
  | stop h => cases hx
  | go h _ ih => exact .go h (ih k hx)

/-! ## Find -/
def stAt (n : Nd) (st : Int) : Int := if n.pages = [] then st else 405
/-- What Find does at a node. -/
def FindS (pg : List Plk → List UInt8 → Option Int) (m : List UInt8) (s : Int × Int) (n : Nd) (s' : Int × Int) (b : Bool) : Prop :=
  match pg n.c m with
  | some i => s' = (i, stAt n s.2) ∧ b = false
  | none => s' = (s.1, stAt n s.2) ∧ b = true
def pgOf (l : List Rpg) (c : List Plk) (m : List UInt8) : Option Int := Option.map (fun i : Nat => Int.ofNat i) (pageAt l c m)
theorem pageAt_isSome {l : List Rpg} {g : Rpg} (h : g ∈ l) : ∃ i, pageAt l (shapeOf g) g.m = some i := by
  cases hp : pageAt l (shapeOf g) g.m with
  | some i => exact ⟨i, rfl⟩
  | none => exact absurd rfl (pageAt_none hp g h)
theorem any_pages {ns : List Nd} {l : List Rpg} (h : TreeI ns (pgOf l)) {n : Nd} (hn : n ∈ ns) : anyAt l n.c = !decide (n.pages = []) := by
  unfold anyAt
  cases hp : n.pages with
  | nil =>
    rw [decide_eq_true rfl, Bool.not_true, List.any_eq_false]
    intro g hg e
    have e : shapeOf g = n.c := by simpa using e
    obtain ⟨i, hi⟩ := pageAt_isSome hg
    have := h.pages n hn g.m
    rw [hp] at this
    unfold pgOf at this
    rw [← e, hi] at this
    cases this
  | cons x r =>
    rw [decide_eq_false (by simp), Bool.not_false, List.any_eq_true]
    have h1 := h.pages n hn x.1
    have h2 : mget x.1 n.pages = some x.2 := by rw [hp, mget, if_pos rfl]
    rw [h2] at h1
    unfold pgOf at h1
    cases hpa : pageAt l n.c x.1 with
    | none => rw [hpa] at h1; cases h1
    | some i =>
      obtain ⟨g, hg, hs, _⟩ := pageAt_some hpa
      exact ⟨g, List.mem_of_getElem? hg, by rw [hs]; exact decide_eq_true rfl⟩
theorem any_none {ns : List Nd} {l : List Rpg} (h : TreeI ns (pgOf l)) {c : List Plk} (hc : ∀ n ∈ ns, n.c ≠ c) : anyAt l c = false ∧ ∀ m, pageAt l c m = none := by
  have h2 : ∀ m, pageAt l c m = none := fun m => by
    cases hp : pageAt l c m with
    | none => rfl
    | some i =>
      obtain ⟨n, hn, e⟩ := h.cover c m i (by unfold pgOf; rw [hp]; rfl)
      exact absurd e (hc n hn)
  refine ⟨?_, h2⟩
  unfold anyAt
  rw [List.any_eq_false]
  intro g hg e
  have e : shapeOf g = c := by simpa using e
  obtain ⟨i, hi⟩ := pageAt_isSome hg
  rw [e, h2] at hi
  cases hi
theorem find_ways {ns : List Nd} {l : List Rpg} (h : TreeI ns (pgOf l)) (m : List UInt8) : ∀ (cs : List (List Plc)) (st : Int) (s' : Int × Int) (b : Bool), RunS (FindS (pgOf l) m) (cs.filterMap fun d => lead ns ([] ++ d)) (-1, st) s' b → s' = findC l m cs st
  | [], st, s', b, hr => by
    cases hr
    rfl
  | c :: r, st, s', b, hr => by
    rw [List.filterMap_cons, List.nil_append] at hr
    unfold findC
    cases hl : lead ns c with
    | none =>
      rw [hl] at hr
      obtain ⟨h1, h2⟩ := any_none h (lead_none hl)
      rw [h1, h2 m]
      exact find_ways h m r st s' b hr
    | some n =>
      rw [hl] at hr
      obtain ⟨hn, hc⟩ := lead_some hl
      have ha := any_pages h hn
      rw [hc] at ha
      have hst : (if anyAt l c = true then (405 : Int) else st) = stAt n st := by
        rw [ha]
        unfold stAt
        by_cases e : n.pages = [] <;> simp [e]
      rw [hst]
      have key : ∀ s1 b1, FindS (pgOf l) m (-1, st) n s1 b1 → match pageAt l c m with | some i => s1 = ((i : Int), stAt n st) ∧ b1 = false | none => s1 = (-1, stAt n st) ∧ b1 = true := fun s1 b1 hs => by
        unfold FindS pgOf at hs
        rw [hc] at hs
        cases hp : pageAt l c m <;> rw [hp] at hs <;> exact hs
      cases hr with
      | stop hs =>
        have := key _ _ hs
        cases hp : pageAt l c m <;> rw [hp] at this
        · cases this.2
        · exact this.1
      | go hs hr2 =>
        have := key _ _ hs
        cases hp : pageAt l c m <;> rw [hp] at this
        · obtain ⟨rfl, _⟩ := this
          exact find_ways h m r _ s' b hr2
        · cases this.2
/-! ## Growing -/
/-- A page more, if its place is free. -/
def hangP (pg : List Plk → List UInt8 → Option Int) (c : List Plk) (m : List UInt8) (i : Int) : List Plk → List UInt8 → Option Int := fun d x => if (pg c m).isNone = true ∧ d = c ∧ x = m then some i else pg d x
theorem pgOf_nil : pgOf [] = fun _ _ => none := rfl
theorem pgOf_snoc {l : List Rpg} {g : Rpg} (hf : pgOf l (shapeOf g) g.m = none) : pgOf (l ++ [g]) = hangP (pgOf l) (shapeOf g) g.m l.length := by
  funext c x
  unfold hangP
  rw [hf]
  unfold pgOf pageAt at *
  rw [List.map_append, List.findIdx?_append, List.length_map]
  simp only [Option.isNone_none, true_and]
  by_cases he : c = shapeOf g ∧ x = g.m
  · obtain ⟨rfl, rfl⟩ := he
    rw [if_pos ⟨rfl, rfl⟩]
    have hn : (l.map slotOf).findIdx? (fun x => decide (x = (shapeOf g, g.m))) = none := by
      rw [Option.map_eq_none_iff] at hf
      exact hf
    rw [hn]
    simp [slotOf]
  · rw [if_neg he]
    have : (([g] : List Rpg).map slotOf).findIdx? (fun y => decide (y = (c, x))) = none := by
      simp only [List.map_cons, List.map_nil, List.findIdx?_cons, List.findIdx?_nil, Option.map_none]
      rw [if_neg]
      simp only [decide_eq_true_eq]
      intro e
      exact he ⟨(Prod.mk.inj e).1.symm, (Prod.mk.inj e).2.symm⟩
    rw [this]
    simp
theorem slots_snoc {l : List Rpg} {g : Rpg} (h : (l.map slotOf).Nodup) (hf : pgOf l (shapeOf g) g.m = none) : ((l ++ [g]).map slotOf).Nodup := by
  rw [List.map_append, List.nodup_append]
  refine ⟨h, by simp, fun a ha b hb e => ?_⟩
  obtain ⟨x, hx, rfl⟩ := List.mem_map.1 ha
  have hb : b = slotOf g := by simpa using hb
  have hn : pageAt l (shapeOf g) g.m = none := Option.map_eq_none_iff.1 hf
  exact pageAt_none hn x hx (e.trans hb)
theorem slots_dup {l r : List Rpg} {g : Rpg} (hf : pgOf l (shapeOf g) g.m ≠ none) : ¬ ((l ++ g :: r).map slotOf).Nodup := by
  intro h
  cases hp : pageAt l (shapeOf g) g.m with
  | none => exact hf (by unfold pgOf; rw [hp]; rfl)
  | some i =>
    obtain ⟨x, hx, h1, h2⟩ := pageAt_some hp
    rw [List.map_append, List.map_cons, List.nodup_append] at h
    exact h.2.2 (slotOf x) (List.mem_map_of_mem (List.mem_of_getElem? hx)) (slotOf g) (List.mem_cons_self ..) (by unfold slotOf; rw [h1, h2])
end Go.Proofs.YtnaeeklnlddcaaaDoor.Vex
/- A tree of pages, walked. -/
namespace Go.Proofs.YtnaeeklnlddcaaaDoor.Vex
open Go Go.RowKit
set_option maxRecDepth 100000
set_option linter.unusedSectionVars false
set_option linter.unusedSectionVars false
variable {gI : GI} [HasMax gI] [HasErr gI]

section
variable {c : Ctx} {T : Ty} {H : Hp} {fr : Fr} {d : Option Nat} {t u yt ty : TypeId} {x : Operand} {pos : String} {after : Array Edge} {gd : Option (Nat × Bool)}
/-- A pointer, held against nil. -/
theorem OthP.ptrEq {p : Option Addr} {K : Value → Prop} (hT : TOk c.P T) (ht : (lookT T t).d = .pointer u) (hx : evK fr x fun v => v = .pointer p) (k : K (.bool p.isNone)) : OthP c ⟨d, .binOp .eql t x (.const (.pointer none)) yt, ty, pos, after, gd⟩ fr H K := ⟨⟨_, k, fun w _ => by
  rw [evK_eq] at hx
  have hu := (lookT_ok hT (t := t) (by rw [ht]; intro h; cases h)).1
  rw [ht] at hu
  have hy : (act fr).eval (.const (.pointer none)) = .pointer none := rfl
  have hb := run_eql_pointer_nil (P := c.P) w t p (by unfold Program.pointee; rw [hu])
  generalize (act fr).eval = ρ at *
  have hg : (eqGuard .eql t x (.const (.pointer none)) (.pointer p) (.pointer none)).run c.P w = .ok () w := rfl
  simp only [execOp, hx, hy, Sem.run_bind, hg, Result.andThen_ok, hb]
  rfl⟩⟩
theorem OthP.ptrNe {p : Option Addr} {K : Value → Prop} (hT : TOk c.P T) (ht : (lookT T t).d = .pointer u) (hx : evK fr x fun v => v = .pointer p) (k : K (.bool (!p.isNone))) : OthP c ⟨d, .binOp .neq t x (.const (.pointer none)) yt, ty, pos, after, gd⟩ fr H K := ⟨⟨_, k, fun w _ => by
  rw [evK_eq] at hx
  have hu := (lookT_ok hT (t := t) (by rw [ht]; intro h; cases h)).1
  rw [ht] at hu
  have hy : (act fr).eval (.const (.pointer none)) = .pointer none := rfl
  have hb := run_neq_pointer_nil (P := c.P) w t p (by unfold Program.pointee; rw [hu])
  generalize (act fr).eval = ρ at *
  have hg : (eqGuard .neq t x (.const (.pointer none)) (.pointer p) (.pointer none)).run c.P w = .ok () w := rfl
  simp only [execOp, hx, hy, Sem.run_bind, hg, Result.andThen_ok, hb]
  rfl⟩⟩
end
theorem Ent.inE {E G : Hp} {x : Ent} (h : x ∈ G) : x ∈ E ++ G := List.mem_append_right _ h
section
variable {ns : List Nd} {pg : List Plk → List UInt8 → Option Int}
/-- What stands behind a node at a key. -/
theorem TreeI.look (h : TreeI ns pg) {n : Nd} (hn : n ∈ ns) (p : Plk) : (mget p n.next).getD (.pointer none) = match Vex.lead ns (n.c ++ [p]) with | some m => m.ptr | none => .pointer none := by
  rcases h.next n hn p with ⟨h1, h2⟩ | ⟨m, hm, h1, h2⟩
  · rw [h1]
    cases hl : Vex.lead ns (n.c ++ [p]) with
    | none => rfl
    | some m => exact absurd (lead_some hl).2 (h2 m (lead_some hl).1)
  · rw [h2, ← h1, h.lead hm]
    rfl
end
/-- A function that is called at a node: what comes of it. -/
structure DoK (c : Ctx) {σ : Type} (G : σ → Hp) (ns : List Nd) (f : Nat) (caps : List Value) (Step : σ → Nd → σ → Bool → Prop) : Prop where
  call : ∀ (E : Hp) (s : σ) (n : Nd) (K : Value → Hp → Prop), n ∈ ns → (∀ s' b, Step s n s' b → K (.bool b) (E ++ G s')) → CallK c false f (n.ptr :: caps) (E ++ G s) K
def preW (ns : List Nd) (c : List Plk) (x : List UInt8) (r : List (List UInt8)) : Nat → List Nd
  | 0 => []
  | 1 => ways ns (c ++ [(0, x)]) r
  | _ => ways ns (c ++ [(0, x)]) r ++ ways ns (c ++ [(1, [])]) r
set_option maxHeartbeats 4000000 in
theorem walk_k {P : Program} {g : GI} {w0 : World} {M : List Nat} {hM : ∀ b ∈ M, g.n ≤ b} {hG : g.G w0} (hP : P = Tryd.prog) {σ : Type} {G : σ → Hp} {ns : List Nd} {pg : List Plk → List UInt8 → Option Int} (ht : TreeI ns pg) (hmem : ∀ s, ∀ x ∈ nodesH ns, x ∈ G s) {f : Nat} {caps : List Value}
    {Step : σ → Nd → σ → Bool → Prop} (hdo : DoK ⟨P, g, w0, M, hM, hG⟩ G ns f caps Step) :
    ∀ (ss : List (List UInt8)) (A : Option Addr) (cp : Nat) (n : Nd) (s : σ) (E : Hp) (K : Value → Hp → Prop), n ∈ ns → ss.length ≤ 1000000 → ss.length ≤ cp → (∀ s, RdS ⟨P, g, w0, M, hM, hG⟩ (G s) A (ss.map str)) →
      (∀ s' b, RunS Step (ways ns n.c ss) s s' b → K (.bool b) (E ++ G s')) → CallK ⟨P, g, w0, M, hM, hG⟩ false 13 [n.ptr, .slice A ss.length cp, .func (.func f) ⟨[]⟩ ⟨caps⟩] (E ++ G s) K
  | [], A, cp, n, s, E, K, hn, hl, hcp, hrd, k => by
    subst hP
    refine CallK.post ?_
    refine CallK.inl tys_ok Tryd.func13 rfl (by kernel_rfl) rfl rfl ?_
    (conv => whnf); repeat ((first | refine tk1 ?_ | refine tk2 ?_ | refine tk3 ?_ | refine tk12 (fun _ => ?_) | refine tk4 ?_ | refine tk5 ?_ | refine tk6 ?_ | refine tk7 ?_ | refine tk8 ?_ | refine tk9 ?_ | refine tk10 (fun _ _ => ?_) | refine tk11 (fun _ => ?_) | refine tk13 ?_ | refine tk14 ?_); (conv => whnf))
    refine hdo.call E s n _ hn (fun s' b hs => ?_)
    (conv => whnf); repeat ((first | refine tk1 ?_ | refine tk2 ?_ | refine tk3 ?_ | refine tk12 (fun _ => ?_) | refine tk4 ?_ | refine tk5 ?_ | refine tk6 ?_ | refine tk7 ?_ | refine tk8 ?_ | refine tk9 ?_ | refine tk10 (fun _ _ => ?_) | refine tk11 (fun _ => ?_) | refine tk13 ?_ | refine tk14 ?_); (conv => whnf))
    exact ⟨_, fun _ h => h, k s' b (by rw [ways_nil, ht.lead hn]; exact RunS.one hs)⟩
  | x :: r, A, cp, n, s, E, K, hn, hl, hcp, hrd, k => by
    have ih := walk_k hP ht hmem hdo r
    subst hP
    have hR : ∀ s, RdA ⟨Tryd.prog, g, w0, M, hM, hG⟩ (G s) A ((x :: r).map str) := fun s => ⟨hrd s⟩
    have hb1 : ∀ s, Ent.box n.b [.map (some n.pm), .map (some n.nm)] 47 ∈ G s := fun s => hmem s _ (nodesH_mem hn _ (by simp [Nd.hd]))
    have hb3 : ∀ s, Ent.obj n.nm (mobj plkV n.next) ∈ G s := fun s => hmem s _ (nodesH_mem hn _ (by simp [Nd.hd]))
    simp only [List.length_cons] at hl
    refine CallK.post ?_
    refine CallK.inl tys_ok Tryd.func13 rfl (by kernel_rfl) rfl rfl ?_
    unfold Nd.ptr
    (conv => whnf); repeat ((first | refine tk1 ?_ | refine tk2 ?_ | refine tk3 ?_ | refine tk12 (fun _ => ?_) | refine tk4 ?_ | refine tk5 ?_ | refine tk6 ?_ | refine tk7 ?_ | refine tk8 ?_ | refine tk9 ?_ | refine tk10 (fun _ _ => ?_) | refine tk11 (fun _ => ?_) | refine tk13 ?_ | refine tk14 ?_); (conv => whnf))
    refine IdxA.tc (xs := (x :: r).map str) (by simp) (by omega) (by simp only [List.length_cons]; omega) ?_
    (conv => whnf); repeat ((first | refine tk1 ?_ | refine tk2 ?_ | refine tk3 ?_ | refine tk12 (fun _ => ?_) | refine tk4 ?_ | refine tk5 ?_ | refine tk6 ?_ | refine tk7 ?_ | refine tk8 ?_ | refine tk9 ?_ | refine tk10 (fun _ _ => ?_) | refine tk11 (fun _ => ?_) | refine tk13 ?_ | refine tk14 ?_); (conv => whnf))
    refine Ld.ta (xs := (x :: r).map str) (v := str x) rfl ?_
    (conv => whnf); repeat ((first | refine tk1 ?_ | refine tk2 ?_ | refine tk3 ?_ | refine tk12 (fun _ => ?_) | refine tk4 ?_ | refine tk5 ?_ | refine tk6 ?_ | refine tk7 ?_ | refine tk8 ?_ | refine tk9 ?_ | refine tk10 (fun _ _ => ?_) | refine tk11 (fun _ => ?_) | refine tk13 ?_ | refine tk14 ?_); (conv => whnf))
    rename_i b
    refine LoopS.lpT tys_ok (fun (z : Nat × σ) u => [.pointer (some ⟨n.b, 0, none⟩), .slice A (x :: r).length cp, .func (.func f) ⟨[]⟩ ⟨caps⟩, u 3, u 4, u 5, u 6, u 7, u 8, u 9, u 10, u 11, u 12, u 13, u 14, u 15, u 16, u 17, u 18, u 19, u 20, u 21, .slice (some ⟨b, 0, none⟩) 2 2, .int .i64 2, .int .i64 (z.1 : Nat), u 25, u 26, u 27, u 28, u 29, u 30, u 31, u 32, u 33, u 34, u 35, u 36, u 37, u 38, u 39, u 40, u 41, u 42, u 43, u 44, u 45, u 46, u 47, u 48, u 49, u 50, u 51, u 52, u 53, u 54, u 55])
      (fun z => .row (.slice (some ⟨b, 0, none⟩) 2 2) 67 2 2 [.int .i64 0, str x, .int .i64 1, str []] :: (E ++ G z.2)) (fun z => z.1 ≤ 2 ∧ RunS Step (preW ns n.c x r z.1) s z.2 true) (fun z => 2 - z.1) (0, s) ⟨Nat.zero_le _, .nil _⟩ rfl (fun _ h => h) ?_
    rintro ⟨i, s1⟩ u ⟨hi, hrun⟩
    dsimp only at hi hrun ⊢
    rcases (show i = 0 ∨ i = 1 ∨ i = 2 by omega) with rfl | rfl | rfl
    · as_aux_lemma =>
      have e := ht.look hn (0, x)
      (conv => whnf); repeat ((first | refine tk1 ?_ | refine tk2 ?_ | refine tk3 ?_ | refine tk12 (fun _ => ?_) | refine tk4 ?_ | refine tk5 ?_ | refine tk6 ?_ | refine tk7 ?_ | refine tk8 ?_ | refine tk9 ?_ | refine tk10 (fun _ _ => ?_) | refine tk11 (fun _ => ?_) | refine tk13 ?_ | refine tk14 ?_); (conv => whnf))
      refine IdxA.tc (xs := [.int .i64 0, str x, .int .i64 1, str []]) (by simp) (by omega) (by omega) ?_
      (conv => whnf); repeat ((first | refine tk1 ?_ | refine tk2 ?_ | refine tk3 ?_ | refine tk12 (fun _ => ?_) | refine tk4 ?_ | refine tk5 ?_ | refine tk6 ?_ | refine tk7 ?_ | refine tk8 ?_ | refine tk9 ?_ | refine tk10 (fun _ _ => ?_) | refine tk11 (fun _ => ?_) | refine tk13 ?_ | refine tk14 ?_); (conv => whnf))
      refine Ld.taN (xs := [.int .i64 0, str x, .int .i64 1, str []]) (vs := [.int .i64 0, str x]) rfl rfl ?_
      (conv => whnf); repeat ((first | refine tk1 ?_ | refine tk2 ?_ | refine tk3 ?_ | refine tk12 (fun _ => ?_) | refine tk4 ?_ | refine tk5 ?_ | refine tk6 ?_ | refine tk7 ?_ | refine tk8 ?_ | refine tk9 ?_ | refine tk10 (fun _ _ => ?_) | refine tk11 (fun _ => ?_) | refine tk13 ?_ | refine tk14 ?_); (conv => whnf))
      rename_i b8
      refine DrawS.go (qs 7) tys_ok mixed (by kernel_rfl) ?_
      (conv => whnf); repeat ((first | refine tk1 ?_ | refine tk2 ?_ | refine tk3 ?_ | refine tk12 (fun _ => ?_) | refine tk4 ?_ | refine tk5 ?_ | refine tk6 ?_ | refine tk7 ?_ | refine tk8 ?_ | refine tk9 ?_ | refine tk10 (fun _ _ => ?_) | refine tk11 (fun _ => ?_) | refine tk13 ?_ | refine tk14 ?_); (conv => whnf))
      refine Ld.mem (.tail _ (.tail _ (Ent.inE (hb1 s1)))) (v := .map (some n.nm)) rfl ?_
      (conv => whnf); repeat ((first | refine tk1 ?_ | refine tk2 ?_ | refine tk3 ?_ | refine tk12 (fun _ => ?_) | refine tk4 ?_ | refine tk5 ?_ | refine tk6 ?_ | refine tk7 ?_ | refine tk8 ?_ | refine tk9 ?_ | refine tk10 (fun _ _ => ?_) | refine tk11 (fun _ => ?_) | refine tk13 ?_ | refine tk14 ?_); (conv => whnf))
      cases hle : lead ns (n.c ++ [(0, x)]) with
      | none =>
        rw [hle] at e
        refine OthP.lookP (k := (0, x)) (l := n.next) rfl tys_ok (objAt_mem (.tail _ (.tail _ (Ent.inE (hb3 s1))))) rfl rfl rfl (fun h => by cases h) rfl e ?_
        (conv => whnf); repeat ((first | refine tk1 ?_ | refine tk2 ?_ | refine tk3 ?_ | refine tk12 (fun _ => ?_) | refine tk4 ?_ | refine tk5 ?_ | refine tk6 ?_ | refine tk7 ?_ | refine tk8 ?_ | refine tk9 ?_ | refine tk10 (fun _ _ => ?_) | refine tk11 (fun _ => ?_) | refine tk13 ?_ | refine tk14 ?_); (conv => whnf))
        refine OthP.ptrNe tys_ok rfl rfl ?_
        (conv => whnf); repeat ((first | refine tk1 ?_ | refine tk2 ?_ | refine tk3 ?_ | refine tk12 (fun _ => ?_) | refine tk4 ?_ | refine tk5 ?_ | refine tk6 ?_ | refine tk7 ?_ | refine tk8 ?_ | refine tk9 ?_ | refine tk10 (fun _ _ => ?_) | refine tk11 (fun _ => ?_) | refine tk13 ?_ | refine tk14 ?_); (conv => whnf))
        exact ⟨(1, s1), ⟨by dsimp only; omega, by show RunS Step (ways ns (n.c ++ [(0, x)]) r) s s1 true; rw [ways_none ht (lead_none hle)]; exact hrun⟩, rfl, Into.skip (fun _ h => h), by dsimp only; omega⟩
      | some m =>
        obtain ⟨hm, hmc⟩ := lead_some hle
        rw [hle] at e
        refine OthP.lookP (k := (0, x)) (l := n.next) rfl tys_ok (objAt_mem (.tail _ (.tail _ (Ent.inE (hb3 s1))))) rfl rfl rfl (fun h => by cases h) rfl e ?_
        unfold Nd.ptr
        (conv => whnf); repeat ((first | refine tk1 ?_ | refine tk2 ?_ | refine tk3 ?_ | refine tk12 (fun _ => ?_) | refine tk4 ?_ | refine tk5 ?_ | refine tk6 ?_ | refine tk7 ?_ | refine tk8 ?_ | refine tk9 ?_ | refine tk10 (fun _ _ => ?_) | refine tk11 (fun _ => ?_) | refine tk13 ?_ | refine tk14 ?_); (conv => whnf))
        refine OthP.ptrNe tys_ok rfl rfl ?_
        (conv => whnf); repeat ((first | refine tk1 ?_ | refine tk2 ?_ | refine tk3 ?_ | refine tk12 (fun _ => ?_) | refine tk4 ?_ | refine tk5 ?_ | refine tk6 ?_ | refine tk7 ?_ | refine tk8 ?_ | refine tk9 ?_ | refine tk10 (fun _ _ => ?_) | refine tk11 (fun _ => ?_) | refine tk13 ?_ | refine tk14 ?_); (conv => whnf))
        refine SlcV.from (lo := 1) (by decide) (by simp only [List.length_cons]; omega) ?_
        rw [show (x :: r).length - Int.toNat 1 = r.length from rfl]
        (conv => whnf); repeat ((first | refine tk1 ?_ | refine tk2 ?_ | refine tk3 ?_ | refine tk12 (fun _ => ?_) | refine tk4 ?_ | refine tk5 ?_ | refine tk6 ?_ | refine tk7 ?_ | refine tk8 ?_ | refine tk9 ?_ | refine tk10 (fun _ _ => ?_) | refine tk11 (fun _ => ?_) | refine tk13 ?_ | refine tk14 ?_); (conv => whnf))
        refine ih _ _ m s1 (_ :: _ :: E) _ hm (by omega) (by simp only [List.length_cons] at hcp; omega) (fun s => ?_) (fun s' b hs => ?_)
        · exact (hrd s).piece (cp := cp) (sz := 1) (lo := 1) (by decide) (fun e => by simp only [List.length_cons, List.length_map] at hcp ⊢; omega)
        rw [hmc] at hs
        cases b
        · (conv => whnf); repeat ((first | refine tk1 ?_ | refine tk2 ?_ | refine tk3 ?_ | refine tk12 (fun _ => ?_) | refine tk4 ?_ | refine tk5 ?_ | refine tk6 ?_ | refine tk7 ?_ | refine tk8 ?_ | refine tk9 ?_ | refine tk10 (fun _ _ => ?_) | refine tk11 (fun _ => ?_) | refine tk13 ?_ | refine tk14 ?_); (conv => whnf))
          refine ⟨E ++ G s', Into.skip (Into.skip (fun _ h => h)), k s' false ?_⟩
          rw [ways_cons]
          exact RunS.app (a := []) hrun (RunS.halt hs _)
        · (conv => whnf); repeat ((first | refine tk1 ?_ | refine tk2 ?_ | refine tk3 ?_ | refine tk12 (fun _ => ?_) | refine tk4 ?_ | refine tk5 ?_ | refine tk6 ?_ | refine tk7 ?_ | refine tk8 ?_ | refine tk9 ?_ | refine tk10 (fun _ _ => ?_) | refine tk11 (fun _ => ?_) | refine tk13 ?_ | refine tk14 ?_); (conv => whnf))
          exact ⟨(1, s'), ⟨by dsimp only; omega, RunS.app hrun hs⟩, rfl, Into.skip (fun _ h => h), by dsimp only; omega⟩
    · as_aux_lemma =>
      have e := ht.look hn (1, [])
      (conv => whnf); repeat ((first | refine tk1 ?_ | refine tk2 ?_ | refine tk3 ?_ | refine tk12 (fun _ => ?_) | refine tk4 ?_ | refine tk5 ?_ | refine tk6 ?_ | refine tk7 ?_ | refine tk8 ?_ | refine tk9 ?_ | refine tk10 (fun _ _ => ?_) | refine tk11 (fun _ => ?_) | refine tk13 ?_ | refine tk14 ?_); (conv => whnf))
      refine IdxA.tc (xs := [.int .i64 0, str x, .int .i64 1, str []]) (by simp) (by omega) (by omega) ?_
      (conv => whnf); repeat ((first | refine tk1 ?_ | refine tk2 ?_ | refine tk3 ?_ | refine tk12 (fun _ => ?_) | refine tk4 ?_ | refine tk5 ?_ | refine tk6 ?_ | refine tk7 ?_ | refine tk8 ?_ | refine tk9 ?_ | refine tk10 (fun _ _ => ?_) | refine tk11 (fun _ => ?_) | refine tk13 ?_ | refine tk14 ?_); (conv => whnf))
      refine Ld.taN (xs := [.int .i64 0, str x, .int .i64 1, str []]) (vs := [.int .i64 1, str []]) rfl rfl ?_
      (conv => whnf); repeat ((first | refine tk1 ?_ | refine tk2 ?_ | refine tk3 ?_ | refine tk12 (fun _ => ?_) | refine tk4 ?_ | refine tk5 ?_ | refine tk6 ?_ | refine tk7 ?_ | refine tk8 ?_ | refine tk9 ?_ | refine tk10 (fun _ _ => ?_) | refine tk11 (fun _ => ?_) | refine tk13 ?_ | refine tk14 ?_); (conv => whnf))
      rename_i b8
      refine DrawS.go (qs 7) tys_ok mixed (by kernel_rfl) ?_
      (conv => whnf); repeat ((first | refine tk1 ?_ | refine tk2 ?_ | refine tk3 ?_ | refine tk12 (fun _ => ?_) | refine tk4 ?_ | refine tk5 ?_ | refine tk6 ?_ | refine tk7 ?_ | refine tk8 ?_ | refine tk9 ?_ | refine tk10 (fun _ _ => ?_) | refine tk11 (fun _ => ?_) | refine tk13 ?_ | refine tk14 ?_); (conv => whnf))
      refine Ld.mem (.tail _ (.tail _ (Ent.inE (hb1 s1)))) (v := .map (some n.nm)) rfl ?_
      (conv => whnf); repeat ((first | refine tk1 ?_ | refine tk2 ?_ | refine tk3 ?_ | refine tk12 (fun _ => ?_) | refine tk4 ?_ | refine tk5 ?_ | refine tk6 ?_ | refine tk7 ?_ | refine tk8 ?_ | refine tk9 ?_ | refine tk10 (fun _ _ => ?_) | refine tk11 (fun _ => ?_) | refine tk13 ?_ | refine tk14 ?_); (conv => whnf))
      cases hle : lead ns (n.c ++ [(1, [])]) with
      | none =>
        rw [hle] at e
        refine OthP.lookP (k := (1, [])) (l := n.next) rfl tys_ok (objAt_mem (.tail _ (.tail _ (Ent.inE (hb3 s1))))) rfl rfl rfl (fun h => by cases h) rfl e ?_
        (conv => whnf); repeat ((first | refine tk1 ?_ | refine tk2 ?_ | refine tk3 ?_ | refine tk12 (fun _ => ?_) | refine tk4 ?_ | refine tk5 ?_ | refine tk6 ?_ | refine tk7 ?_ | refine tk8 ?_ | refine tk9 ?_ | refine tk10 (fun _ _ => ?_) | refine tk11 (fun _ => ?_) | refine tk13 ?_ | refine tk14 ?_); (conv => whnf))
        refine OthP.ptrNe tys_ok rfl rfl ?_
        (conv => whnf); repeat ((first | refine tk1 ?_ | refine tk2 ?_ | refine tk3 ?_ | refine tk12 (fun _ => ?_) | refine tk4 ?_ | refine tk5 ?_ | refine tk6 ?_ | refine tk7 ?_ | refine tk8 ?_ | refine tk9 ?_ | refine tk10 (fun _ _ => ?_) | refine tk11 (fun _ => ?_) | refine tk13 ?_ | refine tk14 ?_); (conv => whnf))
        exact ⟨(2, s1), ⟨by dsimp only; omega, by show RunS Step (ways ns (n.c ++ [(0, x)]) r ++ ways ns (n.c ++ [(1, [])]) r) s s1 true; rw [ways_none ht (lead_none hle), List.append_nil]; exact hrun⟩, rfl, Into.skip (fun _ h => h), by dsimp only; omega⟩
      | some m =>
        obtain ⟨hm, hmc⟩ := lead_some hle
        rw [hle] at e
        refine OthP.lookP (k := (1, [])) (l := n.next) rfl tys_ok (objAt_mem (.tail _ (.tail _ (Ent.inE (hb3 s1))))) rfl rfl rfl (fun h => by cases h) rfl e ?_
        unfold Nd.ptr
        (conv => whnf); repeat ((first | refine tk1 ?_ | refine tk2 ?_ | refine tk3 ?_ | refine tk12 (fun _ => ?_) | refine tk4 ?_ | refine tk5 ?_ | refine tk6 ?_ | refine tk7 ?_ | refine tk8 ?_ | refine tk9 ?_ | refine tk10 (fun _ _ => ?_) | refine tk11 (fun _ => ?_) | refine tk13 ?_ | refine tk14 ?_); (conv => whnf))
        refine OthP.ptrNe tys_ok rfl rfl ?_
        (conv => whnf); repeat ((first | refine tk1 ?_ | refine tk2 ?_ | refine tk3 ?_ | refine tk12 (fun _ => ?_) | refine tk4 ?_ | refine tk5 ?_ | refine tk6 ?_ | refine tk7 ?_ | refine tk8 ?_ | refine tk9 ?_ | refine tk10 (fun _ _ => ?_) | refine tk11 (fun _ => ?_) | refine tk13 ?_ | refine tk14 ?_); (conv => whnf))
        refine SlcV.from (lo := 1) (by decide) (by simp only [List.length_cons]; omega) ?_
        rw [show (x :: r).length - Int.toNat 1 = r.length from rfl]
        (conv => whnf); repeat ((first | refine tk1 ?_ | refine tk2 ?_ | refine tk3 ?_ | refine tk12 (fun _ => ?_) | refine tk4 ?_ | refine tk5 ?_ | refine tk6 ?_ | refine tk7 ?_ | refine tk8 ?_ | refine tk9 ?_ | refine tk10 (fun _ _ => ?_) | refine tk11 (fun _ => ?_) | refine tk13 ?_ | refine tk14 ?_); (conv => whnf))
        refine ih _ _ m s1 (_ :: _ :: E) _ hm (by omega) (by simp only [List.length_cons] at hcp; omega) (fun s => ?_) (fun s' b hs => ?_)
        · exact (hrd s).piece (cp := cp) (sz := 1) (lo := 1) (by decide) (fun e => by simp only [List.length_cons, List.length_map] at hcp ⊢; omega)
        rw [hmc] at hs
        cases b
        · (conv => whnf); repeat ((first | refine tk1 ?_ | refine tk2 ?_ | refine tk3 ?_ | refine tk12 (fun _ => ?_) | refine tk4 ?_ | refine tk5 ?_ | refine tk6 ?_ | refine tk7 ?_ | refine tk8 ?_ | refine tk9 ?_ | refine tk10 (fun _ _ => ?_) | refine tk11 (fun _ => ?_) | refine tk13 ?_ | refine tk14 ?_); (conv => whnf))
          refine ⟨E ++ G s', Into.skip (Into.skip (fun _ h => h)), k s' false ?_⟩
          rw [ways_cons]
          exact RunS.app hrun (RunS.halt hs _)
        · (conv => whnf); repeat ((first | refine tk1 ?_ | refine tk2 ?_ | refine tk3 ?_ | refine tk12 (fun _ => ?_) | refine tk4 ?_ | refine tk5 ?_ | refine tk6 ?_ | refine tk7 ?_ | refine tk8 ?_ | refine tk9 ?_ | refine tk10 (fun _ _ => ?_) | refine tk11 (fun _ => ?_) | refine tk13 ?_ | refine tk14 ?_); (conv => whnf))
          exact ⟨(2, s'), ⟨by dsimp only; omega, RunS.app hrun hs⟩, rfl, Into.skip (fun _ h => h), by dsimp only; omega⟩
    · as_aux_lemma =>
      have e := ht.look hn (2, [])
      (conv => whnf); repeat ((first | refine tk1 ?_ | refine tk2 ?_ | refine tk3 ?_ | refine tk12 (fun _ => ?_) | refine tk4 ?_ | refine tk5 ?_ | refine tk6 ?_ | refine tk7 ?_ | refine tk8 ?_ | refine tk9 ?_ | refine tk10 (fun _ _ => ?_) | refine tk11 (fun _ => ?_) | refine tk13 ?_ | refine tk14 ?_); (conv => whnf))
      refine Ld.mem (.tail _ (Ent.inE (hb1 s1))) (v := .map (some n.nm)) rfl ?_
      (conv => whnf); repeat ((first | refine tk1 ?_ | refine tk2 ?_ | refine tk3 ?_ | refine tk12 (fun _ => ?_) | refine tk4 ?_ | refine tk5 ?_ | refine tk6 ?_ | refine tk7 ?_ | refine tk8 ?_ | refine tk9 ?_ | refine tk10 (fun _ _ => ?_) | refine tk11 (fun _ => ?_) | refine tk13 ?_ | refine tk14 ?_); (conv => whnf))
      cases hle : lead ns (n.c ++ [(2, [])]) with
      | none =>
        rw [hle] at e
        refine OthP.lookP (k := (2, [])) (l := n.next) rfl tys_ok (objAt_mem (.tail _ (Ent.inE (hb3 s1)))) rfl rfl rfl (fun h => by cases h) rfl e ?_
        (conv => whnf); repeat ((first | refine tk1 ?_ | refine tk2 ?_ | refine tk3 ?_ | refine tk12 (fun _ => ?_) | refine tk4 ?_ | refine tk5 ?_ | refine tk6 ?_ | refine tk7 ?_ | refine tk8 ?_ | refine tk9 ?_ | refine tk10 (fun _ _ => ?_) | refine tk11 (fun _ => ?_) | refine tk13 ?_ | refine tk14 ?_); (conv => whnf))
        refine OthP.ptrNe tys_ok rfl rfl ?_
        (conv => whnf); repeat ((first | refine tk1 ?_ | refine tk2 ?_ | refine tk3 ?_ | refine tk12 (fun _ => ?_) | refine tk4 ?_ | refine tk5 ?_ | refine tk6 ?_ | refine tk7 ?_ | refine tk8 ?_ | refine tk9 ?_ | refine tk10 (fun _ _ => ?_) | refine tk11 (fun _ => ?_) | refine tk13 ?_ | refine tk14 ?_); (conv => whnf))
        refine ⟨E ++ G s1, Into.skip (fun _ h => h), k s1 true ?_⟩
        rw [ways_cons, hle, Option.toList_none, List.append_nil]
        exact hrun
      | some m =>
        obtain ⟨hm, hmc⟩ := lead_some hle
        rw [hle] at e
        refine OthP.lookP (k := (2, [])) (l := n.next) rfl tys_ok (objAt_mem (.tail _ (Ent.inE (hb3 s1)))) rfl rfl rfl (fun h => by cases h) rfl e ?_
        unfold Nd.ptr
        (conv => whnf); repeat ((first | refine tk1 ?_ | refine tk2 ?_ | refine tk3 ?_ | refine tk12 (fun _ => ?_) | refine tk4 ?_ | refine tk5 ?_ | refine tk6 ?_ | refine tk7 ?_ | refine tk8 ?_ | refine tk9 ?_ | refine tk10 (fun _ _ => ?_) | refine tk11 (fun _ => ?_) | refine tk13 ?_ | refine tk14 ?_); (conv => whnf))
        refine OthP.ptrNe tys_ok rfl rfl ?_
        (conv => whnf); repeat ((first | refine tk1 ?_ | refine tk2 ?_ | refine tk3 ?_ | refine tk12 (fun _ => ?_) | refine tk4 ?_ | refine tk5 ?_ | refine tk6 ?_ | refine tk7 ?_ | refine tk8 ?_ | refine tk9 ?_ | refine tk10 (fun _ _ => ?_) | refine tk11 (fun _ => ?_) | refine tk13 ?_ | refine tk14 ?_); (conv => whnf))
        refine hdo.call (_ :: E) s1 m _ hm (fun s' b hs => ?_)
        (conv => whnf); repeat ((first | refine tk1 ?_ | refine tk2 ?_ | refine tk3 ?_ | refine tk12 (fun _ => ?_) | refine tk4 ?_ | refine tk5 ?_ | refine tk6 ?_ | refine tk7 ?_ | refine tk8 ?_ | refine tk9 ?_ | refine tk10 (fun _ _ => ?_) | refine tk11 (fun _ => ?_) | refine tk13 ?_ | refine tk14 ?_); (conv => whnf))
        refine ⟨E ++ G s', Into.skip (fun _ h => h), k s' b ?_⟩
        rw [ways_cons, hle, Option.toList_some, ← List.append_assoc]
        exact RunS.app hrun (RunS.one hs)
end Go.Proofs.YtnaeeklnlddcaaaDoor.Vex
/- A page is hung on a tree of pages. -/
namespace Go.Proofs.YtnaeeklnlddcaaaDoor.Vex
open Go Go.RowKit
set_option maxRecDepth 100000
set_option linter.unusedSectionVars false
set_option linter.unusedSectionVars false
variable {gI : GI} [HasMax gI] [HasErr gI]

theorem nodesH_app (a b : List Nd) : nodesH (a ++ b) = nodesH a ++ nodesH b := List.flatMap_append
theorem nodes_back {X : Hp} {us bs : List Nd} {n : Nd} : (n.hd ++ (X ++ nodesH (us ++ bs))).Perm (X ++ nodesH (us ++ n :: bs)) := by
  have e : nodesH (us ++ n :: bs) = nodesH us ++ (n.hd ++ nodesH bs) := by rw [nodesH_app]; rfl
  rw [e, nodesH_app, ← List.append_assoc X, ← List.append_assoc X]
  rw [← List.append_assoc n.hd, ← List.append_assoc (X ++ nodesH us)]
  exact List.Perm.append_right _ List.perm_append_comm
theorem nodes_focus {X : Hp} {ns : List Nd} {m : Nd} (h : m ∈ ns) : ∃ us bs, ns = us ++ m :: bs ∧ (X ++ nodesH ns).Perm (m.hd ++ (X ++ nodesH (us ++ bs))) := by
  obtain ⟨us, bs, rfl⟩ := List.append_of_mem h
  exact ⟨us, bs, rfl, nodes_back.symm⟩
theorem mem_repl {us bs : List Nd} {n n' q : Nd} (h : q ∈ us ++ n :: bs) (hc : n'.c = n.c) (hb : n'.b = n.b) : ∃ q' ∈ us ++ n' :: bs, q'.c = q.c ∧ q'.b = q.b := by
  rcases List.mem_append.1 h with h | h
  · exact ⟨q, List.mem_append_left _ h, rfl, rfl⟩
  · rcases List.mem_cons.1 h with rfl | h
    · exact ⟨n', List.mem_append_right _ (List.mem_cons_self ..), hc, hb⟩
    · exact ⟨q, List.mem_append_right _ (List.mem_cons_of_mem _ h), rfl, rfl⟩
theorem plcCells_at : ∀ (l : List Plc) (k : Nat) (h : k < l.length), ((plcCells l).drop (k * 2)).take 2 = [.int .i64 l[k].1, str l[k].2]
  | p :: r, 0, _ => rfl
  | p :: r, k + 1, h => by
    rw [show (k + 1) * 2 = k * 2 + 1 + 1 by omega]
    exact plcCells_at r k (by simpa using h)
/-- Where the hanging stands: how many places are behind, the node, the others. -/
structure HgS where
  j : Nat
  us : List Nd
  bs : List Nd
  n : Nd
def hgI (pg : List Plk → List UInt8 → Option Int) (l : List Plc) (b : Nat) (z : HgS) : Prop := z.j ≤ l.length ∧ TreeI (z.us ++ z.n :: z.bs) pg ∧ z.n.c = (l.map keyP).take z.j ∧ ∃ q ∈ z.us ++ z.n :: z.bs, q.c = [] ∧ q.b = b
set_option maxHeartbeats 4000000 in
theorem hang_k {P : Program} {g : GI} [HasMax g] [HasErr g] {w0 : World} {M : List Nat} {hM : ∀ b ∈ M, g.n ≤ b} {hG : g.G w0} (hP : P = Tryd.prog) {ns : List Nd} {pg : List Plk → List UInt8 → Option Int} (ht : TreeI ns pg) {r : Nd} (hr : r ∈ ns) (hrc : r.c = []) {page : Int} {m : List UInt8} {l : List Plc} {A : Option Addr} {cp : Nat} {X : Hp}
    {K : Value → Hp → Prop} (hl : l.length ≤ 1000000) (hA : RdS ⟨P, g, w0, M, hM, hG⟩ X A (plcCells l))
    (k : ∀ ns' r', TreeI ns' (hangP pg (l.map keyP) m page) → r' ∈ ns' → r'.c = [] → r'.b = r.b → K (.bool (pg (l.map keyP) m).isNone) (X ++ nodesH ns')) :
    CallK ⟨P, g, w0, M, hM, hG⟩ false 20 [r.ptr, .int .i64 page, str m, .slice A l.length cp] (X ++ nodesH ns) K := by
  obtain ⟨us0, bs0, rfl, hperm⟩ := nodes_focus (X := X) hr
  subst hP
  haveI : RdA ⟨Tryd.prog, g, w0, M, hM, hG⟩ X A (plcCells l) := ⟨hA⟩
  refine CallK.into (fun w hw => hw.perm hperm) (CallK.post ?_)
  refine CallK.inl tys_ok Tryd.func20 rfl (by kernel_rfl) rfl rfl ?_
  unfold Nd.ptr
  (conv => whnf); repeat ((first | refine tk1 ?_ | refine tk2 ?_ | refine tk3 ?_ | refine tk12 (fun _ => ?_) | refine tk4 ?_ | refine tk5 ?_ | refine tk6 ?_ | refine tk7 ?_ | refine tk8 ?_ | refine tk9 ?_ | refine tk10 (fun _ _ => ?_) | refine tk11 (fun _ => ?_) | refine tk13 ?_ | refine tk14 ?_); (conv => whnf))
  refine LoopS.lpT tys_ok (fun (z : HgS) u => [.pointer (some ⟨z.n.b, 0, none⟩), .int .i64 page, str m, u 3, u 4, u 5, u 6, u 7, u 8, u 9, u 10, u 11, u 12, .slice A l.length cp, .int .i64 l.length, .int .i64 (z.j : Nat), u 16, u 17, u 18, u 19, u 20, u 21, u 22, u 23, u 24, u 25, u 26, u 27, u 28, u 29, u 30, u 31, u 32, u 33, u 34, u 35, u 36, u 37, u 38, u 39, u 40, u 41, u 42, u 43, u 44, u 45, u 46, u 47, u 48, u 49, u 50, u 51, u 52, u 53, u 54, u 55, u 56, u 57, u 58])
    (fun z => .box z.n.b [.map (some z.n.pm), .map (some z.n.nm)] 47 :: .obj z.n.pm (mobj str z.n.pages) :: .obj z.n.nm (mobj plkV z.n.next) :: (X ++ nodesH (z.us ++ z.bs))) (hgI pg l r.b) (fun z => l.length - z.j) ⟨0, us0, bs0, r⟩
    ⟨Nat.zero_le _, ht, hrc, r, hr, hrc, rfl⟩ rfl (fun _ h => h) ?_
  rintro ⟨j, us, bs, n⟩ u ⟨hj, ht2, hc, q, hq, hqc, hqb⟩
  dsimp only at hj ht2 hc hq ⊢
  have hn : n ∈ us ++ n :: bs := List.mem_append_right _ (List.mem_cons_self ..)
  by_cases hlt : j < l.length
  rotate_left
  · as_aux_lemma =>
    obtain rfl : j = l.length := by omega
    rw [List.take_of_length_le (by rw [List.length_map]; exact Nat.le_refl _)] at hc
    have hpg := ht2.pages n hn m
    rw [hc] at hpg
    (conv => whnf); repeat ((first | refine tk1 ?_ | refine tk2 ?_ | refine tk3 ?_ | refine tk12 (fun _ => ?_) | refine tk4 ?_ | refine tk5 ?_ | refine tk6 ?_ | refine tk7 ?_ | refine tk8 ?_ | refine tk9 ?_ | refine tk10 (fun _ _ => ?_) | refine tk11 (fun _ => ?_) | refine tk13 ?_ | refine tk14 ?_); (conv => whnf))
    cases hp : pg (l.map keyP) m with
    | some i =>
      rw [hp] at hpg
      have e1 : (Value.tuple ⟨[(mget m n.pages).getD (.int .i64 0), .bool (mget m n.pages).isSome]⟩) = .tuple ⟨[.int .i64 i, .bool true]⟩ := by rw [hpg]; rfl
      refine OthP.look (k := m) (l := n.pages) strK tys_ok rfl rfl rfl rfl (fun h => by cases h) (fun h => by cases h) rfl e1 ?_
      (conv => whnf); repeat ((first | refine tk1 ?_ | refine tk2 ?_ | refine tk3 ?_ | refine tk12 (fun _ => ?_) | refine tk4 ?_ | refine tk5 ?_ | refine tk6 ?_ | refine tk7 ?_ | refine tk8 ?_ | refine tk9 ?_ | refine tk10 (fun _ _ => ?_) | refine tk11 (fun _ => ?_) | refine tk13 ?_ | refine tk14 ?_); (conv => whnf))
      have hh : hangP pg (l.map keyP) m page = pg := by
        funext d x
        unfold hangP
        rw [hp]
        rfl
      have k2 := k (us ++ n :: bs) q (by rw [hh]; exact ht2) hq hqc hqb
      rw [hp] at k2
      exact ⟨_, fun w hw => St.perm hw (nodes_back (n := n)), k2⟩
    | none =>
      rw [hp] at hpg
      have e1 : (Value.tuple ⟨[(mget m n.pages).getD (.int .i64 0), .bool (mget m n.pages).isSome]⟩) = .tuple ⟨[.int .i64 0, .bool false]⟩ := by rw [hpg]; rfl
      refine OthP.look (k := m) (l := n.pages) strK tys_ok rfl rfl rfl rfl (fun h => by cases h) (fun h => by cases h) rfl e1 ?_
      (conv => whnf); repeat ((first | refine tk1 ?_ | refine tk2 ?_ | refine tk3 ?_ | refine tk12 (fun _ => ?_) | refine tk4 ?_ | refine tk5 ?_ | refine tk6 ?_ | refine tk7 ?_ | refine tk8 ?_ | refine tk9 ?_ | refine tk10 (fun _ _ => ?_) | refine tk11 (fun _ => ?_) | refine tk13 ?_ | refine tk14 ?_); (conv => whnf))
      refine OthU.upd (k := m) (l := n.pages) (v := .int .i64 page) strK tys_ok rfl rfl rfl rfl rfl (fun h => by cases h) rfl ?_
      (conv => whnf); repeat ((first | refine tk1 ?_ | refine tk2 ?_ | refine tk3 ?_ | refine tk12 (fun _ => ?_) | refine tk4 ?_ | refine tk5 ?_ | refine tk6 ?_ | refine tk7 ?_ | refine tk8 ?_ | refine tk9 ?_ | refine tk10 (fun _ _ => ?_) | refine tk11 (fun _ => ?_) | refine tk13 ?_ | refine tk14 ?_); (conv => whnf))
      have ht3 := tree_page ht2 m page
      obtain ⟨q2, hq2, hq3, hq4⟩ := mem_repl (n' := { n with pages := mput m (.int .i64 page) n.pages }) hq rfl rfl
      have hh : (fun d x => if d = n.c ∧ x = m then some page else pg d x) = hangP pg (l.map keyP) m page := by
        funext d x
        unfold hangP
        rw [hp, hc]
        simp
      rw [hh] at ht3
      have k2 := k _ q2 ht3 hq2 (hq3.trans hqc) (hq4.trans hqb)
      rw [hp] at k2
      exact ⟨_, fun w hw => St.perm hw (nodes_back (n := { n with pages := mput m (.int .i64 page) n.pages })), k2⟩
  have hcell := plcCells_at l j hlt
  have htk : (l.map keyP).take j ++ [keyP l[j]] = (l.map keyP).take (j + 1) := by
    rw [List.take_add_one, List.getElem?_map, List.getElem?_eq_getElem hlt]
    rfl
  obtain ⟨⟨a, s⟩, hp⟩ : ∃ p, l[j] = p := ⟨_, rfl⟩
  rw [hp] at hcell htk
  by_cases ha : a = 0
  · as_aux_lemma =>
    subst ha
    rw [show keyP ((0 : Int), s) = (0, s) from rfl] at htk
    (conv => whnf); repeat ((first | refine tk1 ?_ | refine tk2 ?_ | refine tk3 ?_ | refine tk12 (fun _ => ?_) | refine tk4 ?_ | refine tk5 ?_ | refine tk6 ?_ | refine tk7 ?_ | refine tk8 ?_ | refine tk9 ?_ | refine tk10 (fun _ _ => ?_) | refine tk11 (fun _ => ?_) | refine tk13 ?_ | refine tk14 ?_); (conv => whnf))
    refine IdxA.tc (xs := plcCells l) (by rw [plcCells_length]; omega) (by omega) (by omega) ?_
    (conv => whnf); repeat ((first | refine tk1 ?_ | refine tk2 ?_ | refine tk3 ?_ | refine tk12 (fun _ => ?_) | refine tk4 ?_ | refine tk5 ?_ | refine tk6 ?_ | refine tk7 ?_ | refine tk8 ?_ | refine tk9 ?_ | refine tk10 (fun _ _ => ?_) | refine tk11 (fun _ => ?_) | refine tk13 ?_ | refine tk14 ?_); (conv => whnf))
    refine Ld.taN (xs := plcCells l) (vs := [.int .i64 0, str s]) (by rw [Int.toNat_natCast]; exact hcell) rfl ?_
    (conv => whnf); repeat ((first | refine tk1 ?_ | refine tk2 ?_ | refine tk3 ?_ | refine tk12 (fun _ => ?_) | refine tk4 ?_ | refine tk5 ?_ | refine tk6 ?_ | refine tk7 ?_ | refine tk8 ?_ | refine tk9 ?_ | refine tk10 (fun _ _ => ?_) | refine tk11 (fun _ => ?_) | refine tk13 ?_ | refine tk14 ?_); (conv => whnf))
    rename_i b8
    refine DrawS.go (qs 7) tys_ok mixed (by kernel_rfl) ?_
    (conv => whnf); repeat ((first | refine tk1 ?_ | refine tk2 ?_ | refine tk3 ?_ | refine tk12 (fun _ => ?_) | refine tk4 ?_ | refine tk5 ?_ | refine tk6 ?_ | refine tk7 ?_ | refine tk8 ?_ | refine tk9 ?_ | refine tk10 (fun _ _ => ?_) | refine tk11 (fun _ => ?_) | refine tk13 ?_ | refine tk14 ?_); (conv => whnf))
    rcases ht2.next n hn ((0 : Int), s) with ⟨h1, h2⟩ | ⟨m2, hm2, h1, h2⟩
    · have e1 : (mget ((0 : Int), s) n.next).getD (.pointer none) = .pointer none := by rw [h1]; rfl
      refine OthP.lookP (k := ((0 : Int), s)) (l := n.next) rfl tys_ok (objAt_mem (.tail _ (.tail _ (.tail _ (.head _))))) rfl rfl rfl (fun h => by cases h) rfl e1 ?_
      (conv => whnf); repeat ((first | refine tk1 ?_ | refine tk2 ?_ | refine tk3 ?_ | refine tk12 (fun _ => ?_) | refine tk4 ?_ | refine tk5 ?_ | refine tk6 ?_ | refine tk7 ?_ | refine tk8 ?_ | refine tk9 ?_ | refine tk10 (fun _ _ => ?_) | refine tk11 (fun _ => ?_) | refine tk13 ?_ | refine tk14 ?_); (conv => whnf))
      refine OthP.ptrEq tys_ok rfl rfl ?_
      (conv => whnf); repeat ((first | refine tk1 ?_ | refine tk2 ?_ | refine tk3 ?_ | refine tk12 (fun _ => ?_) | refine tk4 ?_ | refine tk5 ?_ | refine tk6 ?_ | refine tk7 ?_ | refine tk8 ?_ | refine tk9 ?_ | refine tk10 (fun _ _ => ?_) | refine tk11 (fun _ => ?_) | refine tk13 ?_ | refine tk14 ?_); (conv => whnf))
      refine DrawS.go [(0, true), (1, true), (2, true), (3, true), (4, true), (5, false), (6, false)] tys_ok mixed (by kernel_rfl) ?_
      (conv => whnf); repeat ((first | refine tk1 ?_ | refine tk2 ?_ | refine tk3 ?_ | refine tk12 (fun _ => ?_) | refine tk4 ?_ | refine tk5 ?_ | refine tk6 ?_ | refine tk7 ?_ | refine tk8 ?_ | refine tk9 ?_ | refine tk10 (fun _ _ => ?_) | refine tk11 (fun _ => ?_) | refine tk13 ?_ | refine tk14 ?_); (conv => whnf))
      refine CallK.fnT (rmade_f (gI := g) (n.c ++ [((0 : Int), s)])) (fun _ _ => trivial) ?_
      rintro ⟨zb, zp, zn⟩ _
      dsimp only [MkM.nd, Nd.hd, List.cons_append, List.nil_append]
      rw [List.append_nil]
      (conv => whnf); repeat ((first | refine tk1 ?_ | refine tk2 ?_ | refine tk3 ?_ | refine tk12 (fun _ => ?_) | refine tk4 ?_ | refine tk5 ?_ | refine tk6 ?_ | refine tk7 ?_ | refine tk8 ?_ | refine tk9 ?_ | refine tk10 (fun _ _ => ?_) | refine tk11 (fun _ => ?_) | refine tk13 ?_ | refine tk14 ?_); (conv => whnf))
      refine OthU.updP (k := ((0 : Int), s)) (l := n.next) (v := .pointer (some ⟨zb, 0, none⟩)) rfl tys_ok rfl rfl rfl rfl rfl ?_
      (conv => whnf); repeat ((first | refine tk1 ?_ | refine tk2 ?_ | refine tk3 ?_ | refine tk12 (fun _ => ?_) | refine tk4 ?_ | refine tk5 ?_ | refine tk6 ?_ | refine tk7 ?_ | refine tk8 ?_ | refine tk9 ?_ | refine tk10 (fun _ _ => ?_) | refine tk11 (fun _ => ?_) | refine tk13 ?_ | refine tk14 ?_); (conv => whnf))
      refine DrawS.go (qs 7) tys_ok mixed (by kernel_rfl) ?_
      (conv => whnf); repeat ((first | refine tk1 ?_ | refine tk2 ?_ | refine tk3 ?_ | refine tk12 (fun _ => ?_) | refine tk4 ?_ | refine tk5 ?_ | refine tk6 ?_ | refine tk7 ?_ | refine tk8 ?_ | refine tk9 ?_ | refine tk10 (fun _ _ => ?_) | refine tk11 (fun _ => ?_) | refine tk13 ?_ | refine tk14 ?_); (conv => whnf))
      have e2 : (mget ((0 : Int), s) (mput ((0 : Int), s) (.pointer (some ⟨zb, 0, none⟩)) n.next)).getD (.pointer none) = .pointer (some ⟨zb, 0, none⟩) := by rw [look_upd, if_pos rfl]; rfl
      refine OthP.lookP (k := ((0 : Int), s)) (l := mput ((0 : Int), s) (.pointer (some ⟨zb, 0, none⟩)) n.next) rfl tys_ok (objAt_mem (by simp)) rfl rfl rfl (fun h => by cases h) rfl e2 ?_
      (conv => whnf); repeat ((first | refine tk1 ?_ | refine tk2 ?_ | refine tk3 ?_ | refine tk12 (fun _ => ?_) | refine tk4 ?_ | refine tk5 ?_ | refine tk6 ?_ | refine tk7 ?_ | refine tk8 ?_ | refine tk9 ?_ | refine tk10 (fun _ _ => ?_) | refine tk11 (fun _ => ?_) | refine tk13 ?_ | refine tk14 ?_); (conv => whnf))
      have ht3 := tree_child ht2 ((0 : Int), s) h1 ⟨zb, zp, zn, n.c ++ [((0 : Int), s)], [], []⟩ rfl rfl rfl
      obtain ⟨q2, hq2, hq3, hq4⟩ := mem_repl (n' := { n with next := mput ((0 : Int), s) (.pointer (some ⟨zb, 0, none⟩)) n.next }) hq rfl rfl
      refine ⟨⟨j + 1, us ++ { n with next := mput ((0 : Int), s) (.pointer (some ⟨zb, 0, none⟩)) n.next } :: bs, [], ⟨zb, zp, zn, n.c ++ [((0 : Int), s)], [], []⟩⟩, ⟨by dsimp only; omega, ?_, ?_, q2, ?_, hq3.trans hqc, hq4.trans hqb⟩, rfl, fun w hw => ?_, by dsimp only; omega⟩
      · have e : us ++ { n with next := mput ((0 : Int), s) (.pointer (some ⟨zb, 0, none⟩)) n.next } :: (bs ++ [(⟨zb, zp, zn, n.c ++ [((0 : Int), s)], [], []⟩ : Nd)]) = (us ++ { n with next := mput ((0 : Int), s) (.pointer (some ⟨zb, 0, none⟩)) n.next } :: bs) ++ [⟨zb, zp, zn, n.c ++ [((0 : Int), s)], [], []⟩] := by simp
        dsimp only
        rw [← e]
        exact ht3
      · dsimp only
        rw [hc, htk]
      · dsimp only
        exact List.mem_append_left _ hq2
      · dsimp only
        rw [List.append_nil]
        have h1 : St _ ([.box zb [.map (some zp), .map (some zn)] 47, .obj zp (mobj str []), .obj zn (mobj plkV [])] ++ (({ n with next := mput ((0 : Int), s) (.pointer (some ⟨zb, 0, none⟩)) n.next } : Nd).hd ++ (X ++ nodesH (us ++ bs)))) w := hw.sub (by
          refine .cons_cons _ (.cons_cons _ (.cons_cons _ (.cons _ (List.Sublist.refl _))))
        )
        exact h1.perm (List.Perm.append_left _ nodes_back)
    · have e1 : (mget ((0 : Int), s) n.next).getD (.pointer none) = .pointer (some ⟨m2.b, 0, none⟩) := by rw [h2]; rfl
      refine OthP.lookP (k := ((0 : Int), s)) (l := n.next) rfl tys_ok (objAt_mem (.tail _ (.tail _ (.tail _ (.head _))))) rfl rfl rfl (fun h => by cases h) rfl e1 ?_
      (conv => whnf); repeat ((first | refine tk1 ?_ | refine tk2 ?_ | refine tk3 ?_ | refine tk12 (fun _ => ?_) | refine tk4 ?_ | refine tk5 ?_ | refine tk6 ?_ | refine tk7 ?_ | refine tk8 ?_ | refine tk9 ?_ | refine tk10 (fun _ _ => ?_) | refine tk11 (fun _ => ?_) | refine tk13 ?_ | refine tk14 ?_); (conv => whnf))
      refine OthP.ptrEq tys_ok rfl rfl ?_
      (conv => whnf); repeat ((first | refine tk1 ?_ | refine tk2 ?_ | refine tk3 ?_ | refine tk12 (fun _ => ?_) | refine tk4 ?_ | refine tk5 ?_ | refine tk6 ?_ | refine tk7 ?_ | refine tk8 ?_ | refine tk9 ?_ | refine tk10 (fun _ _ => ?_) | refine tk11 (fun _ => ?_) | refine tk13 ?_ | refine tk14 ?_); (conv => whnf))
      refine DrawS.go (qs 7) tys_ok mixed (by kernel_rfl) ?_
      (conv => whnf); repeat ((first | refine tk1 ?_ | refine tk2 ?_ | refine tk3 ?_ | refine tk12 (fun _ => ?_) | refine tk4 ?_ | refine tk5 ?_ | refine tk6 ?_ | refine tk7 ?_ | refine tk8 ?_ | refine tk9 ?_ | refine tk10 (fun _ _ => ?_) | refine tk11 (fun _ => ?_) | refine tk13 ?_ | refine tk14 ?_); (conv => whnf))
      refine OthP.lookP (k := ((0 : Int), s)) (l := n.next) rfl tys_ok (objAt_mem (.tail _ (.tail _ (.tail _ (.head _))))) rfl rfl rfl (fun h => by cases h) rfl e1 ?_
      (conv => whnf); repeat ((first | refine tk1 ?_ | refine tk2 ?_ | refine tk3 ?_ | refine tk12 (fun _ => ?_) | refine tk4 ?_ | refine tk5 ?_ | refine tk6 ?_ | refine tk7 ?_ | refine tk8 ?_ | refine tk9 ?_ | refine tk10 (fun _ _ => ?_) | refine tk11 (fun _ => ?_) | refine tk13 ?_ | refine tk14 ?_); (conv => whnf))
      obtain ⟨us2, bs2, e2, hp2⟩ := nodes_focus (X := X) hm2
      refine ⟨⟨j + 1, us2, bs2, m2⟩, ⟨by dsimp only; omega, by dsimp only; rw [← e2]; exact ht2, ?_, q, by dsimp only; rw [← e2]; exact hq, hqc, hqb⟩, rfl, fun w hw => ?_, by dsimp only; omega⟩
      · dsimp only
        rw [h1, hc, htk]
      · have h3 : St _ (n.hd ++ (X ++ nodesH (us ++ bs))) w := hw.sub (List.sublist_cons_self _ _)
        exact (h3.perm nodes_back).perm hp2
  · as_aux_lemma =>
    rw [show keyP (a, s) = (a, []) from if_neg ha] at htk
    (conv => whnf); repeat ((first | refine tk1 ?_ | refine tk2 ?_ | refine tk3 ?_ | refine tk12 (fun _ => ?_) | refine tk4 ?_ | refine tk5 ?_ | refine tk6 ?_ | refine tk7 ?_ | refine tk8 ?_ | refine tk9 ?_ | refine tk10 (fun _ _ => ?_) | refine tk11 (fun _ => ?_) | refine tk13 ?_ | refine tk14 ?_); (conv => whnf))
    refine IdxA.tc (xs := plcCells l) (by rw [plcCells_length]; omega) (by omega) (by omega) ?_
    (conv => whnf); repeat ((first | refine tk1 ?_ | refine tk2 ?_ | refine tk3 ?_ | refine tk12 (fun _ => ?_) | refine tk4 ?_ | refine tk5 ?_ | refine tk6 ?_ | refine tk7 ?_ | refine tk8 ?_ | refine tk9 ?_ | refine tk10 (fun _ _ => ?_) | refine tk11 (fun _ => ?_) | refine tk13 ?_ | refine tk14 ?_); (conv => whnf))
    refine Ld.taN (xs := plcCells l) (vs := [.int .i64 a, str s]) (by rw [Int.toNat_natCast]; exact hcell) rfl ?_
    (conv => whnf); repeat ((first | refine tk1 ?_ | refine tk2 ?_ | refine tk3 ?_ | refine tk12 (fun _ => ?_) | refine tk4 ?_ | refine tk5 ?_ | refine tk6 ?_ | refine tk7 ?_ | refine tk8 ?_ | refine tk9 ?_ | refine tk10 (fun _ _ => ?_) | refine tk11 (fun _ => ?_) | refine tk13 ?_ | refine tk14 ?_); (conv => whnf))
    rename_i b8
    refine DrawS.go (qs 7) tys_ok mixed (by kernel_rfl) ?_
    (conv => whnf); repeat ((first | refine tk1 ?_ | refine tk2 ?_ | refine tk3 ?_ | refine tk12 (fun _ => ?_) | refine tk4 ?_ | refine tk5 ?_ | refine tk6 ?_ | refine tk7 ?_ | refine tk8 ?_ | refine tk9 ?_ | refine tk10 (fun _ _ => ?_) | refine tk11 (fun _ => ?_) | refine tk13 ?_ | refine tk14 ?_); (conv => whnf))
    rcases ht2.next n hn (a, ([] : List UInt8)) with ⟨h1, h2⟩ | ⟨m2, hm2, h1, h2⟩
    · have e1 : (mget (a, ([] : List UInt8)) n.next).getD (.pointer none) = .pointer none := by rw [h1]; rfl
      refine OthP.lookP (k := (a, ([] : List UInt8))) (l := n.next) rfl tys_ok (objAt_mem (.tail _ (.tail _ (.tail _ (.head _))))) rfl rfl rfl (fun h => by cases h) rfl e1 ?_
      (conv => whnf); repeat ((first | refine tk1 ?_ | refine tk2 ?_ | refine tk3 ?_ | refine tk12 (fun _ => ?_) | refine tk4 ?_ | refine tk5 ?_ | refine tk6 ?_ | refine tk7 ?_ | refine tk8 ?_ | refine tk9 ?_ | refine tk10 (fun _ _ => ?_) | refine tk11 (fun _ => ?_) | refine tk13 ?_ | refine tk14 ?_); (conv => whnf))
      refine OthP.ptrEq tys_ok rfl rfl ?_
      (conv => whnf); repeat ((first | refine tk1 ?_ | refine tk2 ?_ | refine tk3 ?_ | refine tk12 (fun _ => ?_) | refine tk4 ?_ | refine tk5 ?_ | refine tk6 ?_ | refine tk7 ?_ | refine tk8 ?_ | refine tk9 ?_ | refine tk10 (fun _ _ => ?_) | refine tk11 (fun _ => ?_) | refine tk13 ?_ | refine tk14 ?_); (conv => whnf))
      refine DrawS.go [(0, true), (1, true), (2, true), (3, true), (4, true), (5, false), (6, false)] tys_ok mixed (by kernel_rfl) ?_
      (conv => whnf); repeat ((first | refine tk1 ?_ | refine tk2 ?_ | refine tk3 ?_ | refine tk12 (fun _ => ?_) | refine tk4 ?_ | refine tk5 ?_ | refine tk6 ?_ | refine tk7 ?_ | refine tk8 ?_ | refine tk9 ?_ | refine tk10 (fun _ _ => ?_) | refine tk11 (fun _ => ?_) | refine tk13 ?_ | refine tk14 ?_); (conv => whnf))
      refine CallK.fnT (rmade_f (gI := g) (n.c ++ [(a, ([] : List UInt8))])) (fun _ _ => trivial) ?_
      rintro ⟨zb, zp, zn⟩ _
      dsimp only [MkM.nd, Nd.hd, List.cons_append, List.nil_append]
      rw [List.append_nil]
      (conv => whnf); repeat ((first | refine tk1 ?_ | refine tk2 ?_ | refine tk3 ?_ | refine tk12 (fun _ => ?_) | refine tk4 ?_ | refine tk5 ?_ | refine tk6 ?_ | refine tk7 ?_ | refine tk8 ?_ | refine tk9 ?_ | refine tk10 (fun _ _ => ?_) | refine tk11 (fun _ => ?_) | refine tk13 ?_ | refine tk14 ?_); (conv => whnf))
      refine OthU.updP (k := (a, ([] : List UInt8))) (l := n.next) (v := .pointer (some ⟨zb, 0, none⟩)) rfl tys_ok rfl rfl rfl rfl rfl ?_
      (conv => whnf); repeat ((first | refine tk1 ?_ | refine tk2 ?_ | refine tk3 ?_ | refine tk12 (fun _ => ?_) | refine tk4 ?_ | refine tk5 ?_ | refine tk6 ?_ | refine tk7 ?_ | refine tk8 ?_ | refine tk9 ?_ | refine tk10 (fun _ _ => ?_) | refine tk11 (fun _ => ?_) | refine tk13 ?_ | refine tk14 ?_); (conv => whnf))
      refine DrawS.go (qs 7) tys_ok mixed (by kernel_rfl) ?_
      (conv => whnf); repeat ((first | refine tk1 ?_ | refine tk2 ?_ | refine tk3 ?_ | refine tk12 (fun _ => ?_) | refine tk4 ?_ | refine tk5 ?_ | refine tk6 ?_ | refine tk7 ?_ | refine tk8 ?_ | refine tk9 ?_ | refine tk10 (fun _ _ => ?_) | refine tk11 (fun _ => ?_) | refine tk13 ?_ | refine tk14 ?_); (conv => whnf))
      have e2 : (mget (a, ([] : List UInt8)) (mput (a, ([] : List UInt8)) (.pointer (some ⟨zb, 0, none⟩)) n.next)).getD (.pointer none) = .pointer (some ⟨zb, 0, none⟩) := by rw [look_upd, if_pos rfl]; rfl
      refine OthP.lookP (k := (a, ([] : List UInt8))) (l := mput (a, ([] : List UInt8)) (.pointer (some ⟨zb, 0, none⟩)) n.next) rfl tys_ok (objAt_mem (by simp)) rfl rfl rfl (fun h => by cases h) rfl e2 ?_
      (conv => whnf); repeat ((first | refine tk1 ?_ | refine tk2 ?_ | refine tk3 ?_ | refine tk12 (fun _ => ?_) | refine tk4 ?_ | refine tk5 ?_ | refine tk6 ?_ | refine tk7 ?_ | refine tk8 ?_ | refine tk9 ?_ | refine tk10 (fun _ _ => ?_) | refine tk11 (fun _ => ?_) | refine tk13 ?_ | refine tk14 ?_); (conv => whnf))
      have ht3 := tree_child ht2 (a, ([] : List UInt8)) h1 ⟨zb, zp, zn, n.c ++ [(a, ([] : List UInt8))], [], []⟩ rfl rfl rfl
      obtain ⟨q2, hq2, hq3, hq4⟩ := mem_repl (n' := { n with next := mput (a, ([] : List UInt8)) (.pointer (some ⟨zb, 0, none⟩)) n.next }) hq rfl rfl
      refine ⟨⟨j + 1, us ++ { n with next := mput (a, ([] : List UInt8)) (.pointer (some ⟨zb, 0, none⟩)) n.next } :: bs, [], ⟨zb, zp, zn, n.c ++ [(a, ([] : List UInt8))], [], []⟩⟩, ⟨by dsimp only; omega, ?_, ?_, q2, ?_, hq3.trans hqc, hq4.trans hqb⟩, rfl, fun w hw => ?_, by dsimp only; omega⟩
      · have e : us ++ { n with next := mput (a, ([] : List UInt8)) (.pointer (some ⟨zb, 0, none⟩)) n.next } :: (bs ++ [(⟨zb, zp, zn, n.c ++ [(a, ([] : List UInt8))], [], []⟩ : Nd)]) = (us ++ { n with next := mput (a, ([] : List UInt8)) (.pointer (some ⟨zb, 0, none⟩)) n.next } :: bs) ++ [⟨zb, zp, zn, n.c ++ [(a, ([] : List UInt8))], [], []⟩] := by simp
        dsimp only
        rw [← e]
        exact ht3
      · dsimp only
        rw [hc, htk]
      · dsimp only
        exact List.mem_append_left _ hq2
      · dsimp only
        rw [List.append_nil]
        have h1 : St _ ([.box zb [.map (some zp), .map (some zn)] 47, .obj zp (mobj str []), .obj zn (mobj plkV [])] ++ (({ n with next := mput (a, ([] : List UInt8)) (.pointer (some ⟨zb, 0, none⟩)) n.next } : Nd).hd ++ (X ++ nodesH (us ++ bs)))) w := hw.sub (by
          refine .cons_cons _ (.cons_cons _ (.cons_cons _ (.cons _ (List.Sublist.refl _))))
        )
        exact h1.perm (List.Perm.append_left _ nodes_back)
    · have e1 : (mget (a, ([] : List UInt8)) n.next).getD (.pointer none) = .pointer (some ⟨m2.b, 0, none⟩) := by rw [h2]; rfl
      refine OthP.lookP (k := (a, ([] : List UInt8))) (l := n.next) rfl tys_ok (objAt_mem (.tail _ (.tail _ (.tail _ (.head _))))) rfl rfl rfl (fun h => by cases h) rfl e1 ?_
      (conv => whnf); repeat ((first | refine tk1 ?_ | refine tk2 ?_ | refine tk3 ?_ | refine tk12 (fun _ => ?_) | refine tk4 ?_ | refine tk5 ?_ | refine tk6 ?_ | refine tk7 ?_ | refine tk8 ?_ | refine tk9 ?_ | refine tk10 (fun _ _ => ?_) | refine tk11 (fun _ => ?_) | refine tk13 ?_ | refine tk14 ?_); (conv => whnf))
      refine OthP.ptrEq tys_ok rfl rfl ?_
      (conv => whnf); repeat ((first | refine tk1 ?_ | refine tk2 ?_ | refine tk3 ?_ | refine tk12 (fun _ => ?_) | refine tk4 ?_ | refine tk5 ?_ | refine tk6 ?_ | refine tk7 ?_ | refine tk8 ?_ | refine tk9 ?_ | refine tk10 (fun _ _ => ?_) | refine tk11 (fun _ => ?_) | refine tk13 ?_ | refine tk14 ?_); (conv => whnf))
      refine DrawS.go (qs 7) tys_ok mixed (by kernel_rfl) ?_
      (conv => whnf); repeat ((first | refine tk1 ?_ | refine tk2 ?_ | refine tk3 ?_ | refine tk12 (fun _ => ?_) | refine tk4 ?_ | refine tk5 ?_ | refine tk6 ?_ | refine tk7 ?_ | refine tk8 ?_ | refine tk9 ?_ | refine tk10 (fun _ _ => ?_) | refine tk11 (fun _ => ?_) | refine tk13 ?_ | refine tk14 ?_); (conv => whnf))
      refine OthP.lookP (k := (a, ([] : List UInt8))) (l := n.next) rfl tys_ok (objAt_mem (.tail _ (.tail _ (.tail _ (.head _))))) rfl rfl rfl (fun h => by cases h) rfl e1 ?_
      (conv => whnf); repeat ((first | refine tk1 ?_ | refine tk2 ?_ | refine tk3 ?_ | refine tk12 (fun _ => ?_) | refine tk4 ?_ | refine tk5 ?_ | refine tk6 ?_ | refine tk7 ?_ | refine tk8 ?_ | refine tk9 ?_ | refine tk10 (fun _ _ => ?_) | refine tk11 (fun _ => ?_) | refine tk13 ?_ | refine tk14 ?_); (conv => whnf))
      obtain ⟨us2, bs2, e2, hp2⟩ := nodes_focus (X := X) hm2
      refine ⟨⟨j + 1, us2, bs2, m2⟩, ⟨by dsimp only; omega, by dsimp only; rw [← e2]; exact ht2, ?_, q, by dsimp only; rw [← e2]; exact hq, hqc, hqb⟩, rfl, fun w hw => ?_, by dsimp only; omega⟩
      · dsimp only
        rw [h1, hc, htk]
      · have h3 : St _ (n.hd ++ (X ++ nodesH (us ++ bs))) w := hw.sub (List.sublist_cons_self _ _)
        exact (h3.perm nodes_back).perm hp2
end Go.Proofs.YtnaeeklnlddcaaaDoor.Vex
/- Pages and what they answer, as plain functions. No program in sight. -/
namespace Go.Proofs.YtnaeeklnlddcaaaDoor.Vex

/-- A piece: its kind, its text, how many times, and whether it has a flush. -/
structure Pce where
  k : UInt8
  t : List UInt8
  m : Int
  f : Bool
def clN : List UInt8 := [99, 111, 110, 116, 101, 110, 116, 45, 108, 101, 110, 103, 116, 104]
def teN : List UInt8 := [116, 114, 97, 110, 115, 102, 101, 114, 45, 101, 110, 99, 111, 100, 105, 110, 103]
def coN : List UInt8 := [99, 111, 110, 110, 101, 99, 116, 105, 111, 110]
def ceN : List UInt8 := [99, 111, 110, 116, 101, 110, 116, 45, 101, 110, 99, 111, 100, 105, 110, 103]
def etN : List UInt8 := [101, 116, 97, 103]
def ownL : List (List UInt8) := [clN, teN, coN, ceN, etN]
def pieceOK (x : Pce) : Bool :=
  if x.k.toNat = 1 then decide (x.t.length ≤ 1000) && (decide (0 ≤ x.m) && decide (x.m ≤ 100))
  else if x.k.toNat = 2 then decide (x.t.length ≤ 1000) && decide (x.m = 0)
  else (decide (x.k.toNat = 3) || decide (x.k.toNat = 4)) && (decide (x.t = []) && decide (x.m = 0))
def fldOK (f : Fld) : Bool := fieldOK f.1 f.2 && !ownL.contains f.1
/-- The status, the number of pieces, the tag. -/
def statOK (st : Int) (n : Nat) : Bool := decide (200 ≤ st) && (decide (st ≤ 599) && (!decide (st = 304) && (decide (n ≤ 16) && (!decide (st = 204) || decide (n = 0)))))
def tagOK (tag : List UInt8) : Bool := decide (tag = []) || mayB tag
def pageOK (st : Int) (tag : List UInt8) (fs : List Fld) (ps : List Pce) : Bool := statOK st ps.length && (fs.all fldOK && (tagOK tag && ps.all pieceOK))
def pageE (st : Int) (tag : List UInt8) (fs : List Fld) (ps : List Pce) : Int := if pageOK st tag fs ps then 0 else 8
/-- n times a text. -/
def times : Nat → List UInt8 → List UInt8
  | 0, _ => []
  | n + 1, s => times n s ++ s
theorem times_length (s : List UInt8) : ∀ n, (times n s).length = n * s.length
  | 0 => by simp [times]
  | n + 1 => by rw [times, List.length_append, times_length s n, Nat.succ_mul]
def valueAt (s : List UInt8) : List Fld → List UInt8
  | [] => []
  | p :: r => if p.1 = s then p.2 else valueAt s r
/-- What a piece tells. -/
def tells (x : Pce) (body query : List UInt8) (pm : List Fld) : List UInt8 :=
  if x.k.toNat = 1 then times x.m.toNat x.t else if x.k.toNat = 2 then valueAt x.t pm else if x.k.toNat = 3 then body else query
abbrev Prs := List (List UInt8 × Bool)
/-- A part behind the others, if it has bytes. -/
def close1 (o : List UInt8) (f : Bool) (d : Prs) : Prs := if o = [] then d else d ++ [(o, f)]
/-- A piece more: the open part, and those ahead of it. -/
def stepG (q : List UInt8 × Prs) (x : List UInt8 × Bool) : List UInt8 × Prs := if x.2 then ([], close1 (q.1 ++ x.1) true q.2) else (q.1 ++ x.1, q.2)
def stG (l : Prs) : List UInt8 × Prs := l.foldl stepG ([], [])
def partsG (l : Prs) : Prs := close1 (stG l).1 false (stG l).2
def total : Prs → Nat
  | [] => 0
  | p :: r => p.1.length + total r
def bodyOf (l : Prs) : List UInt8 := l.flatMap (·.1)
theorem stG_snoc (l : Prs) (x : List UInt8 × Bool) : stG (l ++ [x]) = stepG (stG l) x := by unfold stG; rw [List.foldl_append]; rfl
theorem total_append : ∀ a b : Prs, total (a ++ b) = total a + total b
  | [], b => by simp [total]
  | p :: a, b => by rw [List.cons_append, total, total, total_append a b, Nat.add_assoc]
theorem total_snoc (a : Prs) (x : List UInt8 × Bool) : total (a ++ [x]) = total a + x.1.length := by rw [total_append]; simp [total]
theorem total_take (l : Prs) (k : Nat) : total (l.take k) ≤ total l := by
  have h := total_append (l.take k) (l.drop k)
  rw [List.take_append_drop] at h
  omega
theorem total_bodyOf : ∀ l : Prs, (bodyOf l).length = total l
  | [] => rfl
  | p :: r => by unfold bodyOf; rw [List.flatMap_cons, List.length_append, total]; exact congrArg _ (total_bodyOf r)
theorem bodyOf_snoc (l : Prs) (x : List UInt8 × Bool) : bodyOf (l ++ [x]) = bodyOf l ++ x.1 := by unfold bodyOf; rw [List.flatMap_append]; simp
theorem bodyOf_close (o : List UInt8) (f : Bool) (d : Prs) : bodyOf (close1 o f d) = bodyOf d ++ o := by
  unfold close1
  by_cases h : o = []
  · rw [if_pos h, h, List.append_nil]
  · rw [if_neg h, bodyOf_snoc]
theorem snoc_ind {α : Type} {p : List α → Prop} (h0 : p []) (h1 : ∀ l x, p l → p (l ++ [x])) (l : List α) : p l := by
  have key : ∀ r : List α, p r.reverse := fun r => by
    induction r with
    | nil => exact h0
    | cons x r ih => rw [List.reverse_cons]; exact h1 _ _ ih
  have := key l.reverse
  rwa [List.reverse_reverse] at this
theorem bodyOf_stG (l : Prs) : bodyOf (stG l).2 ++ (stG l).1 = bodyOf l := by
  refine snoc_ind (p := fun l => bodyOf (stG l).2 ++ (stG l).1 = bodyOf l) rfl (fun l x ih => ?_) l
  rw [stG_snoc, bodyOf_snoc, ← ih]
  unfold stepG
  split
  · rw [bodyOf_close, List.append_nil, List.append_assoc]
  · rw [List.append_assoc]
/-- The body is what all pieces tell. -/
theorem bodyOf_parts (l : Prs) : bodyOf (partsG l) = bodyOf l := by
  unfold partsG
  rw [bodyOf_close]
  exact bodyOf_stG l
theorem total_stG (l : Prs) : total (stG l).2 + (stG l).1.length = total l := by
  rw [← total_bodyOf, ← total_bodyOf, ← bodyOf_stG l, List.length_append]
/-- Parts that are closed have a flush, and bytes. -/
theorem whole_stG (l : Prs) : ∀ p ∈ (stG l).2, p.1 ≠ [] ∧ p.2 = true := by
  refine snoc_ind (p := fun l => ∀ p ∈ (stG l).2, p.1 ≠ [] ∧ p.2 = true) (fun p h => by cases h) (fun l x ih => ?_) l
  rw [stG_snoc]
  unfold stepG close1
  split
  · dsimp only
    split
    · exact ih
    · rename_i h
      intro p hp
      rcases List.mem_append.1 hp with hp | hp
      · exact ih p hp
      · rw [List.mem_singleton.1 hp]; exact ⟨h, rfl⟩
  · exact ih
theorem length_le_total : ∀ (d : Prs), (∀ p ∈ d, p.1 ≠ []) → d.length ≤ total d
  | [], _ => Nat.le_refl _
  | p :: r, h => by
    have h1 := List.length_pos_iff.2 (h p (by simp))
    have ih := length_le_total r fun q hq => h q (by simp [hq])
    rw [total, List.length_cons]
    omega
theorem stG_length (l : Prs) : (stG l).2.length ≤ l.length := by
  refine snoc_ind (p := fun l => (stG l).2.length ≤ l.length) (Nat.le_refl _) (fun l x ih => ?_) l
  rw [stG_snoc, List.length_append]
  unfold stepG close1
  split
  · dsimp only
    split
    · exact Nat.le_trans ih (by simp)
    · simp; exact ih
  · exact Nat.le_trans ih (by simp)
/-- The most that pieces tell. -/
theorem tells_le (x : Pce) (body query : List UInt8) (pm : List Fld) (h : pieceOK x = true) (n : Nat) (hb : body.length ≤ n) (hq : query.length ≤ n) (hp : ∀ p ∈ pm, p.2.length ≤ n) (hn : 100000 ≤ n) : (tells x body query pm).length ≤ n := by
  unfold tells
  unfold pieceOK at h
  split
  · rename_i h1
    rw [if_pos h1] at h
    simp only [Bool.and_eq_true, decide_eq_true_eq] at h
    rw [times_length]
    have h2 : x.m.toNat ≤ 100 := by omega
    exact Nat.le_trans (Nat.mul_le_mul h2 h.1) hn
  · split
    · have key : ∀ l : List Fld, (∀ p ∈ l, p.2.length ≤ n) → (valueAt x.t l).length ≤ n := fun l => by
        induction l with
        | nil => intro _; simp [valueAt]
        | cons p r ih =>
          intro hl
          unfold valueAt
          split
          · exact hl p (by simp)
          · exact ih fun q hq => hl q (by simp [hq])
      exact key pm hp
    · split
      · exact hb
      · exact hq
/-- What pieces tell, each with its flush. -/
def told (body query : List UInt8) (pm : List Fld) (ps : List Pce) : Prs := ps.map fun x => (tells x body query pm, x.f)
/-- An answer. -/
structure Ans where
  st : Int
  fs : List Fld
  ps : Prs
  tag : List UInt8
  press : Bool
def ans0 : Ans := ⟨0, [], [], [], false⟩
def ansF (tag : List UInt8) (fs : List Fld) : List Fld := if tag = [] then fs else fs ++ [(etN, [34] ++ tag ++ [34])]
/-- What a page answers that may be, and is not too long. -/
def ansOf (st : Int) (fs : List Fld) (tag : List UInt8) (press : Bool) (tl : Prs) : Ans := ⟨st, ansF tag fs, partsG tl, tag, press && !decide (st = 204)⟩
def answerOf (st : Int) (fs : List Fld) (tag : List UInt8) (press : Bool) (ps : List Pce) (body query : List UInt8) (pm : List Fld) : Ans × Int :=
  if pageOK st tag fs ps then
    if total (told body query pm ps) ≤ 131072 then (ansOf st fs tag press (told body query pm ps), 0) else (ans0, 9)
  else (ans0, 8)
end Go.Proofs.YtnaeeklnlddcaaaDoor.Vex
/- Arguments that are pages. -/
namespace Go.Proofs.YtnaeeklnlddcaaaDoor.Vex
open Go Go.RowKit Go.ChangeShapes Go.WideShapes Go.Deep
set_option maxRecDepth 100000

/-- The cells of a list of pieces. -/
def pccells : List Pce → List Value
  | [] => []
  | p :: r => .int .u8 p.k.toNat :: str p.t :: .int .i64 p.m :: .bool p.f :: pccells r
theorem pccells_length : ∀ l : List Pce, (pccells l).length = l.length * 4
  | [] => rfl
  | _ :: r => by simp only [pccells, List.length_cons, pccells_length r]; omega
theorem pccells_at : ∀ (l : List Pce) (k : Nat) (h : k < l.length), ((pccells l).drop (k * 4)).take 4 = [.int .u8 l[k].k.toNat, str l[k].t, .int .i64 l[k].m, .bool l[k].f] ∧
    (pccells l)[k * 4 + 0]? = some (.int .u8 l[k].k.toNat) ∧ (pccells l)[k * 4 + 1]? = some (str l[k].t) ∧ (pccells l)[k * 4 + 2]? = some (.int .i64 l[k].m) ∧ (pccells l)[k * 4 + 3]? = some (.bool l[k].f)
  | p :: r, 0, _ => ⟨rfl, rfl, rfl, rfl, rfl⟩
  | p :: r, k + 1, h => by
    have ih := pccells_at r k (by simpa using h)
    rw [show (k + 1) * 4 = k * 4 + 1 + 1 + 1 + 1 by omega]
    simp only [pccells, List.drop_succ_cons, List.getElem_cons_succ]
    refine ⟨ih.1, ?_, ?_, ?_, ?_⟩
    · exact ih.2.1
    · exact ih.2.2.1
    · exact ih.2.2.2.1
    · exact ih.2.2.2.2
theorem flat_pieces (l : List Pce) : l.flatMap (fun p => [byteV p.k, str p.t, .int .i64 p.m, .bool p.f]) = pccells l := by
  induction l with
  | nil => rfl
  | cons a r ih => rw [List.flatMap_cons, ih]; rfl
abbrev pceShape : Shape := ⟨Pce, 4, fun p => [byteV p.k, str p.t, .int .i64 p.m, .bool p.f], fun _ p => p.t.length ≤ 9223372036854775807 ∧ -9223372036854775808 ≤ p.m ∧ p.m ≤ 9223372036854775807, fun p => p.t.length + 4⟩
theorem opens_piece : Opens Tryd.prog 162 pceShape := by
  have h := opens_struct Tryd.underlying162 (by kernel_rfl) (opensL_cons rfl opens_u8 (opensL_cons rfl opens_string (opensL_cons rfl opens_i64 (opensL_cons rfl opens_tf (opensL_nil _)))))
  exact opens_map h (fun x => Pce.mk x.1 x.2.1 x.2.2.1 x.2.2.2.1) rfl (fun _ _ _ => rfl) (fun _ _ h => ⟨h.2.1, h.2.2.1⟩) (fun _ _ _ => by dsimp only; omega)
abbrev piecesShape : Shape := sliceShape pceShape
theorem opens_pieces : Opens Tryd.prog 26 piecesShape := opens_slice Tryd.underlying26 (by kernel_rfl) opens_piece
/-- A page that came in. -/
structure Pg where
  m : List UInt8
  p : List UInt8
  st : Int
  F : Sl Fld
  tag : List UInt8
  press : Bool
  Ps : Sl Pce
def Pg.cells (x : Pg) : List Value := [str x.m, str x.p, .int .i64 x.st, .slice x.F.A x.F.l.length x.F.cp, str x.tag, .bool x.press, .slice x.Ps.A x.Ps.l.length x.Ps.cp]
abbrev pageShape : Shape := ⟨Pg, 7, Pg.cells, fun w x => (-9223372036854775808 ≤ x.st ∧ x.st ≤ 9223372036854775807) ∧ fieldsShape.ok w x.F ∧ piecesShape.ok w x.Ps ∧ x.m.length ≤ 9223372036854775807 ∧ x.p.length ≤ 9223372036854775807 ∧ x.tag.length ≤ 9223372036854775807,
  fun x => x.m.length + x.p.length + x.tag.length + fieldsShape.wt x.F + piecesShape.wt x.Ps⟩
theorem opens_page : Opens Tryd.prog 28 pageShape := by
  have h := opens_struct Tryd.underlying28 (by kernel_rfl) (opensL_cons rfl opens_string (opensL_cons rfl opens_string (opensL_cons rfl opens_i64 (opensL_cons rfl opens_fields (opensL_cons rfl opens_string (opensL_cons rfl opens_tf (opensL_cons rfl opens_pieces (opensL_nil _))))))))
  exact opens_map h (fun x => Pg.mk x.1 x.2.1 x.2.2.1 x.2.2.2.1 x.2.2.2.2.1 x.2.2.2.2.2.1 x.2.2.2.2.2.2.1) rfl (fun _ _ _ => rfl) (fun _ _ h => ⟨h.2.2.1, h.2.2.2.1, h.2.2.2.2.2.2.1, h.1, h.2.1, h.2.2.2.2.1⟩) (fun _ _ _ => by dsimp only; omega)
theorem rd_pieces {W : World} {x : Sl Pce} (h : piecesShape.ok W x) : Rdw W x.A (pccells x.l) := flat_pieces x.l ▸ h.2.1
/-- What a bound on the whole gives. -/
theorem sum_mem {α : Type} (f : α → Nat) : ∀ (l : List α) (x : α), x ∈ l → f x ≤ (l.map f).sum
  | y :: r, x, h => by
    simp only [List.map_cons, List.sum_cons]
    rcases List.mem_cons.1 h with rfl | h
    · omega
    · have := sum_mem f r x h; omega
theorem sum_len {α : Type} (f : α → Nat) (h1 : ∀ x, 1 ≤ f x) : ∀ (l : List α), l.length ≤ (l.map f).sum
  | [] => Nat.le_refl _
  | y :: r => by
    simp only [List.map_cons, List.sum_cons, List.length_cons]
    have := sum_len f h1 r
    have := h1 y
    omega
/-- A page, a request and parameters that are not beyond every machine. -/
structure Fit (x : Pg) (r : Req) (pm : Sl Fld) : Prop where
  st : -9223372036854775808 ≤ x.st ∧ x.st ≤ 9223372036854775807
  tag : x.tag.length ≤ 1048576
  fs : fsum x.F.l ≤ 1048576
  np : x.Ps.l.length ≤ 1048576
  pt : ∀ p ∈ x.Ps.l, p.t.length ≤ 1048576 ∧ -9223372036854775808 ≤ p.m ∧ p.m ≤ 9223372036854775807
  body : r.B.l.length ≤ 1048576
  query : r.q.length ≤ 1048576
  pm : fsum pm.l ≤ 1048576
theorem fit_of {W : World} {x : Pg} {r : Req} {pm : Sl Fld} {n : Nat} (hx : pageShape.ok W x) (hr : reqShape.ok W r) (_hp : fieldsShape.ok W pm) (hn : pageShape.wt x + (reqShape.wt r + (fieldsShape.wt pm + n)) ≤ 1048576) : Fit x r pm := by
  have h1 : fsum x.F.l ≤ fieldsShape.wt x.F := Nat.le_succ _
  have h2 : fsum pm.l ≤ fieldsShape.wt pm := Nat.le_succ _
  have h3 : pageShape.wt x = x.m.length + x.p.length + x.tag.length + fieldsShape.wt x.F + piecesShape.wt x.Ps := rfl
  have h4 : reqShape.wt r = r.m.length + r.p.length + r.q.length + fieldsShape.wt r.F + bytesShape.wt r.B := rfl
  have h5 : bytesShape.wt r.B = (r.B.l.map fun _ => 1).sum + 1 := rfl
  have h6 : piecesShape.wt x.Ps = (x.Ps.l.map fun p => p.t.length + 4).sum + 1 := rfl
  have h7 := sum_len (fun _ : UInt8 => 1) (fun _ => Nat.le_refl _) r.B.l
  have h8 := sum_len (fun p : Pce => p.t.length + 4) (fun _ => by omega) x.Ps.l
  refine ⟨hx.1, by omega, by omega, by omega, fun p hp => ?_, by omega, by omega, by omega⟩
  have h9 := sum_mem (fun p : Pce => p.t.length + 4) x.Ps.l p hp
  exact ⟨by omega, (hx.2.2.1.2.2 p hp).2⟩
end Go.Proofs.YtnaeeklnlddcaaaDoor.Vex
/- The tree of pages, grown. -/
namespace Go.Proofs.YtnaeeklnlddcaaaDoor.Vex
open Go Go.RowKit
set_option maxRecDepth 100000
set_option linter.unusedSectionVars false
set_option linter.unusedSectionVars false
variable {gI : GI} [HasMax gI] [HasErr gI]

def pgCells (l : List Pg) : List Value := l.flatMap Pg.cells
abbrev pgV (x : Pg) : List Value := [str x.m, str x.p, .int .i64 x.st, .slice x.F.A x.F.l.length x.F.cp, str x.tag, .bool x.press, .slice x.Ps.A x.Ps.l.length x.Ps.cp]
theorem pgCells_length : ∀ l : List Pg, (pgCells l).length = l.length * 7
  | [] => rfl
  | x :: r => by
    have ih := pgCells_length r
    unfold pgCells at *
    rw [List.flatMap_cons, List.length_append, ih, List.length_cons, show x.cells.length = 7 from rfl]
    omega
theorem pgCells_at : ∀ (l : List Pg) (k : Nat) (h : k < l.length), ((pgCells l).drop (k * 7)).take 7 = pgV l[k] ∧ (pgCells l)[k * 7]? = some (str l[k].m) ∧ (pgCells l)[k * 7 + 1]? = some (str l[k].p)
  | x :: r, 0, _ => ⟨rfl, rfl, rfl⟩
  | x :: r, k + 1, h => by
    rw [show (k + 1) * 7 = k * 7 + 7 by omega]
    exact pgCells_at r k (by simpa using h)
theorem pgCells_app (a b : List Pg) : pgCells (a ++ b) = pgCells a ++ pgCells b := List.flatMap_append
def rp (l : List Pg) : List Rpg := l.map fun x => ⟨x.m, x.p⟩
theorem rp_length (l : List Pg) : (rp l).length = l.length := List.length_map _
theorem rp_at (l : List Pg) (k : Nat) (h : k < l.length) : (rp l)[k]? = some ⟨l[k].m, l[k].p⟩ := by
  unfold rp
  rw [List.getElem?_map, List.getElem?_eq_getElem h]
  rfl
theorem grown_many {l : List Rpg} (h : 32 < l.length) : grownE l = 4 := if_pos h
theorem grown_text {l : List Rpg} (h : l.length ≤ 32) {g : Rpg} (hg : g ∈ l) (hb : pgOK g = false) : grownE l = 3 := by
  unfold grownE
  rw [if_neg (by omega), if_neg]
  intro h2
  rw [List.all_eq_true.1 h2 g hg] at hb
  cases hb
theorem grown_two {l : List Rpg} (h : l.length ≤ 32) (ha : ∀ g ∈ l, pgOK g = true) : (¬ (l.map slotOf).Nodup → grownE l = 8) ∧ ((l.map slotOf).Nodup → grownE l = 0) := by
  unfold grownE
  rw [if_neg (by omega), if_pos (List.all_eq_true.2 ha)]
  exact ⟨fun hn => if_neg fun e => hn ((slotsOK_nodup l).1 e), fun hn => if_pos ((slotsOK_nodup l).2 hn)⟩
/-- Places of one page, in memory. -/
structure PlR where
  A : Option Addr
  cp : Nat
  l : List Plc
def PlR.row (q : PlR) : Ent := .row (.slice q.A q.l.length q.cp) 67 2 q.l.length (plcCells q.l)
def PlR.val (q : PlR) : Value := .slice q.A q.l.length q.cp
theorem PlR.rd {c : Ctx} {qs : List PlR} {q : PlR} (h : q ∈ qs) : RdS c (qs.map PlR.row) q.A (plcCells q.l) :=
  RdS.sub (H := [q.row]) RdS.here (List.singleton_sublist.2 (List.mem_map_of_mem h))
structure GrM where
  ns : List Nd
  r : Nd
def GrM.none : GrM := ⟨[], ⟨0, 0, 0, [], [], []⟩⟩
def GrV (e : Int) (x : GrM) : Value := .tuple #[if e = 0 then x.r.ptr else .pointer Option.none, .int .i64 e]
def GrQ (l : List Rpg) (x : GrM) : Prop := grownE l = 0 → TreeI x.ns (pgOf l) ∧ x.r ∈ x.ns ∧ x.r.c = []
structure G1S where
  j : Nat
  qs : List PlR
  A : Option Addr
  cp : Nat
def g1I (l : List Pg) (z : G1S) : Prop := z.j ≤ l.length ∧ z.qs.length = z.j ∧ ∀ (i : Nat) (q : PlR), z.qs[i]? = some q → ∃ x : Pg, l[i]? = some x ∧ placesOf x.p = some q.l ∧ methodsR.contains x.m = true
structure G2S where
  j : Nat
  ns : List Nd
  r : Nd
def g2I (l : List Rpg) (b : Nat) (z : G2S) : Prop := z.j ≤ l.length ∧ TreeI z.ns (pgOf (l.take z.j)) ∧ z.r ∈ z.ns ∧ z.r.c = [] ∧ z.r.b = b ∧ ((l.take z.j).map slotOf).Nodup
set_option maxHeartbeats 4000000 in
theorem grown_f (PA : Option Addr) (Pc : Nat) (l : List Pg) (hl : l.length ≤ 1000000) (hp : ∀ x ∈ l, x.p.length ≤ 1000000) :
    FnT Tryd.prog gI 11 [.slice PA l.length Pc] (fun w => Rdw w PA (pgCells l)) (GrV (grownE (rp l))) (GrQ (rp l)) (fun _ => []) (fun x => nodesH x.ns) := by
  refine FnE.of tys_ok Tryd.func11 rfl (by kernel_rfl) rfl rfl ?_; intro w hG hP
  have hR : ∀ H, RdA (mkC Tryd.prog gI w hG) H PA (pgCells l) := fun H => ⟨hP.now⟩
  clear hP
  have hfail : ∀ (e : Int) (H : Hp), grownE (rp l) = e → e ≠ 0 → ∀ w', St (mkC Tryd.prog gI w hG) H w' → ∃ x : GrM, Value.tuple #[.pointer none, .int .i64 e] = GrV (grownE (rp l)) x ∧ GrQ (rp l) x ∧ newH w w' ([] ++ nodesH x.ns) := fun e H he h0 w' hw' => by
    refine ⟨GrM.none, ?_, fun h => absurd (he.symm.trans h) h0, newH.into hw' Into.nil⟩
    unfold GrV
    rw [he, if_neg h0]
  by_cases h32 : 32 < l.length
  · (conv => whnf); repeat ((first | refine tk1 ?_ | refine tk2 ?_ | refine tk3 ?_ | refine tk12 (fun _ => ?_) | refine tk4 ?_ | refine tk5 ?_ | refine tk6 ?_ | refine tk7 ?_ | refine tk8 ?_ | refine tk9 ?_ | refine tk10 (fun _ _ => ?_) | refine tk11 (fun _ => ?_) | refine tk13 ?_ | refine tk14 ?_); (conv => whnf))
    exact hfail 4 _ (grown_many (by rw [rp_length]; exact h32)) (by decide)
  (conv => whnf); repeat ((first | refine tk1 ?_ | refine tk2 ?_ | refine tk3 ?_ | refine tk12 (fun _ => ?_) | refine tk4 ?_ | refine tk5 ?_ | refine tk6 ?_ | refine tk7 ?_ | refine tk8 ?_ | refine tk9 ?_ | refine tk10 (fun _ _ => ?_) | refine tk11 (fun _ => ?_) | refine tk13 ?_ | refine tk14 ?_); (conv => whnf))
  rename_i mb
  refine LoopS.lpT tys_ok (fun (z : G1S) u => [.slice PA l.length Pc, u 1, u 2, u 3, .slice (some ⟨mb, 0, none⟩) 5 5, .slice z.A z.qs.length z.cp, u 6, u 7, u 8, u 9, u 10, u 11, u 12, u 13, u 14, u 15, u 16, .slice PA l.length Pc, .int .i64 l.length, .int .i64 (z.j : Nat), u 20, u 21, u 22, u 23, u 24, u 25, u 26, u 27, u 28, u 29, u 30, u 31, u 32, u 33, u 34, u 35, u 36, u 37, u 38, u 39, u 40, u 41, u 42, u 43, u 44, u 45, u 46, u 47, u 48, u 49, u 50, u 51, u 52, u 53, u 54, u 55, u 56, u 57, u 58, u 59, u 60, u 61, u 62])
    (fun z => .row (.slice z.A z.qs.length z.cp) 50 1 z.qs.length (z.qs.map PlR.val) :: .row (.slice (some ⟨mb, 0, none⟩) 5 5) 9 1 5 (methodsR.map str) :: z.qs.map PlR.row) (g1I l) (fun z => l.length - z.j) ⟨0, [], none, 0⟩
    ⟨Nat.zero_le _, rfl, fun i q h => by simp at h⟩ rfl (Into.nilRow (e := 50) (sz := 1) (fun _ h => h)) ?_
  rintro ⟨j, qs, A, cp⟩ u ⟨hj, hqs, hI⟩
  dsimp only at hj hqs hI ⊢
  by_cases hlt : j < l.length
  · as_aux_lemma =>
    obtain ⟨c1, c2, c3⟩ := pgCells_at l j hlt
    have hrj := rp_at l j hlt
    have hmem := List.mem_of_getElem? hrj
    have hpl := hp l[j] (List.getElem_mem hlt)
    have hxj : l[j]? = some l[j] := List.getElem?_eq_getElem hlt
    generalize l[j] = x at *
    have hpf := places_f (gI := gI) x.p (by omega)
    (conv => whnf); repeat ((first | refine tk1 ?_ | refine tk2 ?_ | refine tk3 ?_ | refine tk12 (fun _ => ?_) | refine tk4 ?_ | refine tk5 ?_ | refine tk6 ?_ | refine tk7 ?_ | refine tk8 ?_ | refine tk9 ?_ | refine tk10 (fun _ _ => ?_) | refine tk11 (fun _ => ?_) | refine tk13 ?_ | refine tk14 ?_); (conv => whnf))
    refine IdxA.tc (xs := pgCells l) (by rw [pgCells_length]; omega) (by omega) (by omega) ?_
    (conv => whnf); repeat ((first | refine tk1 ?_ | refine tk2 ?_ | refine tk3 ?_ | refine tk12 (fun _ => ?_) | refine tk4 ?_ | refine tk5 ?_ | refine tk6 ?_ | refine tk7 ?_ | refine tk8 ?_ | refine tk9 ?_ | refine tk10 (fun _ _ => ?_) | refine tk11 (fun _ => ?_) | refine tk13 ?_ | refine tk14 ?_); (conv => whnf))
    refine Ld.taN (xs := pgCells l) (vs := pgV x) (by rw [Int.toNat_natCast]; exact c1) rfl ?_
    (conv => whnf); repeat ((first | refine tk1 ?_ | refine tk2 ?_ | refine tk3 ?_ | refine tk12 (fun _ => ?_) | refine tk4 ?_ | refine tk5 ?_ | refine tk6 ?_ | refine tk7 ?_ | refine tk8 ?_ | refine tk9 ?_ | refine tk10 (fun _ _ => ?_) | refine tk11 (fun _ => ?_) | refine tk13 ?_ | refine tk14 ?_); (conv => whnf))
    refine CallK.fnT hpf (fun _ _ => trivial) ?_
    rintro ⟨qA, qc⟩ _
    dsimp only [PlV, PlH, List.cons_append, List.nil_append]
    rw [List.append_nil]
    cases hpo : placesOf x.p with
    | none =>
      (conv => whnf); repeat ((first | refine tk1 ?_ | refine tk2 ?_ | refine tk3 ?_ | refine tk12 (fun _ => ?_) | refine tk4 ?_ | refine tk5 ?_ | refine tk6 ?_ | refine tk7 ?_ | refine tk8 ?_ | refine tk9 ?_ | refine tk10 (fun _ _ => ?_) | refine tk11 (fun _ => ?_) | refine tk13 ?_ | refine tk14 ?_); (conv => whnf))
      exact hfail 3 _ (grown_text (by rw [rp_length]; omega) hmem (by unfold pgOK; rw [hpo]; rfl)) (by decide)
    | some q =>
      (conv => whnf); repeat ((first | refine tk1 ?_ | refine tk2 ?_ | refine tk3 ?_ | refine tk12 (fun _ => ?_) | refine tk4 ?_ | refine tk5 ?_ | refine tk6 ?_ | refine tk7 ?_ | refine tk8 ?_ | refine tk9 ?_ | refine tk10 (fun _ _ => ?_) | refine tk11 (fun _ => ?_) | refine tk13 ?_ | refine tk14 ?_); (conv => whnf))
      refine CallK.fnR (Contains_f (some ⟨mb, 0, none⟩) 5 methodsR x.m (by decide)) ⟨RdA.ok, trivial⟩ ?_
      cases hmc : methodsR.contains x.m
      · (conv => whnf); repeat ((first | refine tk1 ?_ | refine tk2 ?_ | refine tk3 ?_ | refine tk12 (fun _ => ?_) | refine tk4 ?_ | refine tk5 ?_ | refine tk6 ?_ | refine tk7 ?_ | refine tk8 ?_ | refine tk9 ?_ | refine tk10 (fun _ _ => ?_) | refine tk11 (fun _ => ?_) | refine tk13 ?_ | refine tk14 ?_); (conv => whnf))
        exact hfail 3 _ (grown_text (by rw [rp_length]; omega) hmem (by unfold pgOK; rw [hmc, Bool.and_false])) (by decide)
      · (conv => whnf); repeat ((first | refine tk1 ?_ | refine tk2 ?_ | refine tk3 ?_ | refine tk12 (fun _ => ?_) | refine tk4 ?_ | refine tk5 ?_ | refine tk6 ?_ | refine tk7 ?_ | refine tk8 ?_ | refine tk9 ?_ | refine tk10 (fun _ _ => ?_) | refine tk11 (fun _ => ?_) | refine tk13 ?_ | refine tk14 ?_); (conv => whnf))
        refine AppS.tc (m := 1) (news := [.slice qA q.length qc]) SrcK.tc rfl (by simp [Value.oneCell']) (by decide) (by omega) (by omega) (zs := (qs ++ [(⟨qA, qc, q⟩ : PlR)]).map PlR.val) (by rw [List.map_append]; rfl) (fun A' cp' => ?_)
        rw [show qs.length + 1 = (qs ++ [(⟨qA, qc, q⟩ : PlR)]).length by simp]
        (conv => whnf); repeat ((first | refine tk1 ?_ | refine tk2 ?_ | refine tk3 ?_ | refine tk12 (fun _ => ?_) | refine tk4 ?_ | refine tk5 ?_ | refine tk6 ?_ | refine tk7 ?_ | refine tk8 ?_ | refine tk9 ?_ | refine tk10 (fun _ _ => ?_) | refine tk11 (fun _ => ?_) | refine tk13 ?_ | refine tk14 ?_); (conv => whnf))
        refine ⟨⟨j + 1, qs ++ [⟨qA, qc, q⟩], A', cp'⟩, ⟨by dsimp only; omega, by dsimp only; rw [List.length_append, hqs]; rfl, fun i y hy => ?_⟩, rfl, ?_, by dsimp only; omega⟩
        · dsimp only at hy
          rcases Nat.lt_or_ge i qs.length with h | h
          · rw [List.getElem?_append_left h] at hy
            exact hI i y hy
          · rw [List.getElem?_append_right h] at hy
            have hi : i = j := by
              have := (List.getElem?_eq_some_iff.1 hy).1
              simp at this
              omega
            subst hi
            rw [hqs, Nat.sub_self] at hy
            cases hy
            exact ⟨x, hxj, hpo, hmc⟩
        · dsimp only
          refine Cv.into (Cv.trans (K := .row (.slice A' (qs ++ [(⟨qA, qc, q⟩ : PlR)]).length cp') 50 1 (qs ++ [(⟨qA, qc, q⟩ : PlR)]).length ((qs ++ [(⟨qA, qc, q⟩ : PlR)]).map PlR.val) :: .row (.slice (some ⟨mb, 0, none⟩) 5 5) 9 1 5 (methodsR.map str) :: (qs ++ [(⟨qA, qc, q⟩ : PlR)]).map PlR.row) (G := .row (.slice A' (qs ++ [(⟨qA, qc, q⟩ : PlR)]).length cp') 50 1 (qs ++ [(⟨qA, qc, q⟩ : PlR)]).length ((qs ++ [(⟨qA, qc, q⟩ : PlR)]).map PlR.val) :: .row (.slice (some ⟨mb, 0, none⟩) 5 5) 9 1 5 (methodsR.map str) :: .row (.slice qA q.length qc) 67 2 q.length (plcCells q) :: qs.map PlR.row) (by (try dsimp only); repeat' (first | with_reducible exact Cv.refl | with_reducible exact Cv.left | with_reducible exact Cv.right | with_reducible exact Cv.nil | (with_reducible apply Cv.cons; focus ((repeat (first | with_reducible exact Pick.here | with_reducible apply Pick.skip)); done)) | (apply Cv.cons; focus ((repeat (first | exact Pick.here | apply Pick.skip)); done)) | exact Cv.nil | exact Cv.refl | exact Cv.left | exact Cv.right | refine Cv.skip ?_)) (.of ?_))
          rw [List.map_append (f := PlR.row)]
          exact List.Perm.cons _ (List.Perm.cons _ (List.perm_append_comm (l₁ := [PlR.row ⟨qA, qc, q⟩])))
  obtain rfl : j = l.length := by omega
  have hall : ∀ g ∈ rp l, pgOK g = true := fun g hg => by
    obtain ⟨i, hi⟩ := List.getElem?_of_mem hg
    have hil : i < l.length := by
      have := (List.getElem?_eq_some_iff.1 hi).1
      rw [rp_length] at this
      exact this
    obtain ⟨x, hx, hx2, hx3⟩ := hI i qs[i] (List.getElem?_eq_getElem (by omega))
    rw [List.getElem?_eq_getElem hil] at hx
    rw [rp_at l i hil] at hi
    cases hi
    cases hx
    unfold pgOK
    rw [hx2, hx3]
    rfl
  obtain ⟨hg8, hg0⟩ := grown_two (by rw [rp_length]; omega) hall
  (conv => whnf); repeat ((first | refine tk1 ?_ | refine tk2 ?_ | refine tk3 ?_ | refine tk12 (fun _ => ?_) | refine tk4 ?_ | refine tk5 ?_ | refine tk6 ?_ | refine tk7 ?_ | refine tk8 ?_ | refine tk9 ?_ | refine tk10 (fun _ _ => ?_) | refine tk11 (fun _ => ?_) | refine tk13 ?_ | refine tk14 ?_); (conv => whnf))
  refine CallK.fnT (rmade_f []) (fun _ _ => trivial) ?_
  rintro ⟨zb, zp, zn⟩ _
  dsimp only [MkM.nd, Nd.hd, List.cons_append, List.nil_append]
  rw [List.append_nil]
  (conv => whnf); repeat ((first | refine tk1 ?_ | refine tk2 ?_ | refine tk3 ?_ | refine tk12 (fun _ => ?_) | refine tk4 ?_ | refine tk5 ?_ | refine tk6 ?_ | refine tk7 ?_ | refine tk8 ?_ | refine tk9 ?_ | refine tk10 (fun _ _ => ?_) | refine tk11 (fun _ => ?_) | refine tk13 ?_ | refine tk14 ?_); (conv => whnf))
  refine LoopS.lpT tys_ok (fun (z : G2S) u => [u 0, u 1, u 2, u 3, u 4, .slice A qs.length cp, u 6, u 7, u 8, u 9, .pointer (some ⟨zb, 0, none⟩), u 11, u 12, u 13, u 14, u 15, u 16, u 17, u 18, u 19, u 20, u 21, u 22, u 23, u 24, u 25, u 26, u 27, u 28, u 29, u 30, u 31, u 32, u 33, u 34, u 35, u 36, u 37, u 38, u 39, u 40, u 41, u 42, u 43, .slice PA l.length Pc, .int .i64 l.length, .int .i64 (z.j : Nat), u 47, u 48, u 49, u 50, u 51, u 52, u 53, u 54, u 55, u 56, u 57, u 58, u 59, u 60, u 61, u 62])
    (fun z => .row (.slice A qs.length cp) 50 1 qs.length (qs.map PlR.val) :: (qs.map PlR.row ++ nodesH z.ns)) (g2I (rp l) zb) (fun z => l.length - z.j) ⟨0, [⟨zb, zp, zn, [], [], []⟩], ⟨zb, zp, zn, [], [], []⟩⟩
    ⟨Nat.zero_le _, tree_root _ rfl rfl rfl, List.mem_singleton.2 rfl, rfl, rfl, List.nodup_nil⟩ rfl (Cv.into ?_) ?_
  · refine Cv.trans (G := .row (.slice A qs.length cp) 50 1 qs.length (qs.map PlR.val) :: .box zb [.map (some zp), .map (some zn)] 47 :: .obj zp (mobj str []) :: .obj zn (mobj plkV []) :: qs.map PlR.row) (by (try dsimp only); repeat' (first | with_reducible exact Cv.refl | with_reducible exact Cv.left | with_reducible exact Cv.right | with_reducible exact Cv.nil | (with_reducible apply Cv.cons; focus ((repeat (first | with_reducible exact Pick.here | with_reducible apply Pick.skip)); done)) | (apply Cv.cons; focus ((repeat (first | exact Pick.here | apply Pick.skip)); done)) | exact Cv.nil | exact Cv.refl | exact Cv.left | exact Cv.right | refine Cv.skip ?_)) (.of ?_)
    exact List.Perm.cons _ (List.perm_append_comm (l₁ := nodesH [⟨zb, zp, zn, [], [], []⟩]))
  rintro ⟨k, ns, r⟩ u2 ⟨hk, htr, hr, hrc, hrb, hnd⟩
  dsimp only at hk htr hr hrc hrb hnd ⊢
  rw [rp_length] at hk
  by_cases hlt2 : k < l.length
  · as_aux_lemma =>
    obtain ⟨c1, c2, c3⟩ := pgCells_at l k hlt2
    have hrj := rp_at l k hlt2
    have hqk : k < qs.length := by omega
    obtain ⟨x, hxk, hpo, hmc⟩ := hI k qs[k] (List.getElem?_eq_getElem hqk)
    rw [List.getElem?_eq_getElem hlt2] at hxk
    rw [Option.some.inj hxk] at c1 c2 c3 hrj
    have hqm : qs[k] ∈ qs := List.getElem_mem hqk
    have hqv : (qs.map PlR.val)[((k : Nat) : Int).toNat * 1]? = some (PlR.val qs[k]) := by rw [Int.toNat_natCast, Nat.mul_one, List.getElem?_map, List.getElem?_eq_getElem hqk]; rfl
    have hql : (qs[k]).l.length ≤ 1000000 := by
      have h1 := placesG_len _ _ _ (show placesG (splitB 47 (x.p.drop 1)) (segs x.p) = some (qs[k]).l by
        unfold placesOf at hpo
        split at hpo
        · exact hpo
        · cases hpo)
      have h2 := splitB_length 47 (x.p.drop 1)
      have h3 := hp x (List.mem_of_getElem? ((List.getElem?_eq_getElem hlt2).trans hxk))
      rw [List.length_drop] at h2
      omega
    generalize qs[k] = q at *
    have hsh : q.l.map keyP = shapeOf ⟨x.m, x.p⟩ := by
      unfold shapeOf
      rw [hpo]
      rfl
    have htk : (rp l).take (k + 1) = (rp l).take k ++ [⟨x.m, x.p⟩] := by rw [List.take_add_one, hrj]; rfl
    (conv => whnf); repeat ((first | refine tk1 ?_ | refine tk2 ?_ | refine tk3 ?_ | refine tk12 (fun _ => ?_) | refine tk4 ?_ | refine tk5 ?_ | refine tk6 ?_ | refine tk7 ?_ | refine tk8 ?_ | refine tk9 ?_ | refine tk10 (fun _ _ => ?_) | refine tk11 (fun _ => ?_) | refine tk13 ?_ | refine tk14 ?_); (conv => whnf))
    refine IdxA.tc (xs := pgCells l) (by rw [pgCells_length]; omega) (by omega) (by omega) ?_
    (conv => whnf); repeat ((first | refine tk1 ?_ | refine tk2 ?_ | refine tk3 ?_ | refine tk12 (fun _ => ?_) | refine tk4 ?_ | refine tk5 ?_ | refine tk6 ?_ | refine tk7 ?_ | refine tk8 ?_ | refine tk9 ?_ | refine tk10 (fun _ _ => ?_) | refine tk11 (fun _ => ?_) | refine tk13 ?_ | refine tk14 ?_); (conv => whnf))
    refine Ld.taN (xs := pgCells l) (vs := pgV x) (by rw [Int.toNat_natCast]; exact c1) rfl ?_
    (conv => whnf); repeat ((first | refine tk1 ?_ | refine tk2 ?_ | refine tk3 ?_ | refine tk12 (fun _ => ?_) | refine tk4 ?_ | refine tk5 ?_ | refine tk6 ?_ | refine tk7 ?_ | refine tk8 ?_ | refine tk9 ?_ | refine tk10 (fun _ _ => ?_) | refine tk11 (fun _ => ?_) | refine tk13 ?_ | refine tk14 ?_); (conv => whnf))
    rename_i b12
    refine DrawS.goW [8] [(0, true), (1, true), (2, true), (3, true), (4, true), (5, true), (6, true), (7, true), (8, false), (9, true)] tys_ok mixed (by kernel_rfl) ?_
    (conv => whnf); repeat ((first | refine tk1 ?_ | refine tk2 ?_ | refine tk3 ?_ | refine tk12 (fun _ => ?_) | refine tk4 ?_ | refine tk5 ?_ | refine tk6 ?_ | refine tk7 ?_ | refine tk8 ?_ | refine tk9 ?_ | refine tk10 (fun _ _ => ?_) | refine tk11 (fun _ => ?_) | refine tk13 ?_ | refine tk14 ?_); (conv => whnf))
    refine IdxA.tc (xs := qs.map PlR.val) (by rw [List.length_map]; omega) (by omega) (by omega) ?_
    (conv => whnf); repeat ((first | refine tk1 ?_ | refine tk2 ?_ | refine tk3 ?_ | refine tk12 (fun _ => ?_) | refine tk4 ?_ | refine tk5 ?_ | refine tk6 ?_ | refine tk7 ?_ | refine tk8 ?_ | refine tk9 ?_ | refine tk10 (fun _ _ => ?_) | refine tk11 (fun _ => ?_) | refine tk13 ?_ | refine tk14 ?_); (conv => whnf))
    refine Ld.ta (xs := qs.map PlR.val) hqv ?_
    unfold PlR.val
    (conv => whnf); repeat ((first | refine tk1 ?_ | refine tk2 ?_ | refine tk3 ?_ | refine tk12 (fun _ => ?_) | refine tk4 ?_ | refine tk5 ?_ | refine tk6 ?_ | refine tk7 ?_ | refine tk8 ?_ | refine tk9 ?_ | refine tk10 (fun _ _ => ?_) | refine tk11 (fun _ => ?_) | refine tk13 ?_ | refine tk14 ?_); (conv => whnf))
    rw [← hrb]
    refine hang_k (r := r) (X := .box b12 (pgV x) 28 :: .row (.slice A qs.length cp) 50 1 qs.length (qs.map PlR.val) :: qs.map PlR.row) rfl htr hr hrc hql (RdS.skip (RdS.skip (PlR.rd hqm))) (fun ns' r' ht' hr' hrc' hrb' => ?_)
    rw [hsh] at ht' ⊢
    cases hpg : pgOf ((rp l).take k) (shapeOf ⟨x.m, x.p⟩) x.m with
    | none =>
      (conv => whnf); repeat ((first | refine tk1 ?_ | refine tk2 ?_ | refine tk3 ?_ | refine tk12 (fun _ => ?_) | refine tk4 ?_ | refine tk5 ?_ | refine tk6 ?_ | refine tk7 ?_ | refine tk8 ?_ | refine tk9 ?_ | refine tk10 (fun _ _ => ?_) | refine tk11 (fun _ => ?_) | refine tk13 ?_ | refine tk14 ?_); (conv => whnf))
      refine ⟨⟨k + 1, ns', r'⟩, ⟨by dsimp only; rw [rp_length]; omega, ?_, hr', hrc', hrb', ?_⟩, rfl, Into.skip (fun _ h => h), by dsimp only; omega⟩
      · dsimp only
        rw [htk, pgOf_snoc hpg, List.length_take, rp_length, Nat.min_eq_left (by omega)]
        exact ht'
      · dsimp only
        rw [htk]
        exact slots_snoc hnd hpg
    | some i =>
      (conv => whnf); repeat ((first | refine tk1 ?_ | refine tk2 ?_ | refine tk3 ?_ | refine tk12 (fun _ => ?_) | refine tk4 ?_ | refine tk5 ?_ | refine tk6 ?_ | refine tk7 ?_ | refine tk8 ?_ | refine tk9 ?_ | refine tk10 (fun _ _ => ?_) | refine tk11 (fun _ => ?_) | refine tk13 ?_ | refine tk14 ?_); (conv => whnf))
      refine hfail 8 _ (hg8 fun hn => ?_) (by decide)
      refine slots_dup (l := (rp l).take k) (g := ⟨x.m, x.p⟩) (r := (rp l).drop (k + 1)) (by rw [hpg]; simp) ?_
      have e : (rp l).take k ++ ⟨x.m, x.p⟩ :: (rp l).drop (k + 1) = rp l := by
        have h1 : (rp l).drop k = ⟨x.m, x.p⟩ :: (rp l).drop (k + 1) := by
          have h2 : k < (rp l).length := by rw [rp_length]; exact hlt2
          rw [List.drop_eq_getElem_cons h2]
          rw [List.getElem?_eq_getElem h2] at hrj
          rw [Option.some.inj hrj]
        rw [← h1, List.take_append_drop]
      rw [e]
      exact hn
  obtain rfl : k = l.length := by omega
  rw [List.take_of_length_le (by rw [rp_length]; exact Nat.le_refl _)] at htr hnd
  have h0 := hg0 hnd
  (conv => whnf); repeat ((first | refine tk1 ?_ | refine tk2 ?_ | refine tk3 ?_ | refine tk12 (fun _ => ?_) | refine tk4 ?_ | refine tk5 ?_ | refine tk6 ?_ | refine tk7 ?_ | refine tk8 ?_ | refine tk9 ?_ | refine tk10 (fun _ _ => ?_) | refine tk11 (fun _ => ?_) | refine tk13 ?_ | refine tk14 ?_); (conv => whnf))
  refine fun w' hw' => ⟨⟨ns, r⟩, ?_, fun _ => ⟨htr, hr, hrc⟩, newH.into hw' (Into.skip Into.right)⟩
  unfold GrV Nd.ptr
  rw [h0, if_pos rfl, hrb]
end Go.Proofs.YtnaeeklnlddcaaaDoor.Vex
/- The law of parameters that are put in their places, over lists. No program in sight. -/
namespace Go.Proofs.YtnaeeklnlddcaaaDoor.Vex

/-- A rest, quoted but for its slashes. -/
def fillRest : List UInt8 → List UInt8 → List UInt8
  | part, [] => quoteOf part
  | part, x :: r => if x = 47 then quoteOf part ++ 47 :: fillRest [] r else fillRest (part ++ [x]) r
def fillV (v : List UInt8) (rest : Bool) : List UInt8 := if rest then fillRest [] v else quoteOf v
theorem fillRest_made : ∀ v part : List UInt8, madeOf pathL (fillRest part v) = true
  | [], part => made_quote part
  | x :: r, part => by
    unfold fillRest
    split
    · rw [made_app _ path_37 _ _ _ (Nat.le_refl _) (made_quote part), made_cons pathL 47 _ (by decide), fillRest_made r []]
      decide
    · exact fillRest_made r _
theorem quoteB_len (x : UInt8) : (quoteB x).length ≤ 3 := by unfold quoteB; split <;> simp
theorem quote_len : ∀ s : List UInt8, (quoteOf s).length ≤ 3 * s.length
  | [] => by simp [quoteOf]
  | x :: r => by
    have h1 := quote_len r
    have h2 := quoteB_len x
    unfold quoteOf at *
    rw [List.flatMap_cons, List.length_append, List.length_cons]
    omega
theorem fillRest_len : ∀ v part : List UInt8, (fillRest part v).length ≤ 3 * part.length + 3 * v.length
  | [], part => by have := quote_len part; simp only [fillRest, List.length_nil]; omega
  | x :: r, part => by
    unfold fillRest
    split
    · have h1 := quote_len part
      have h2 := fillRest_len r []
      rw [List.length_append, List.length_cons, List.length_cons]
      simp only [List.length_nil] at h2
      omega
    · have h2 := fillRest_len r (part ++ [x])
      rw [List.length_append] at h2
      simp only [List.length_cons, List.length_nil] at h2 ⊢
      omega
theorem fillV_len (v : List UInt8) (r : Bool) : (fillV v r).length ≤ 3 * v.length := by
  unfold fillV
  have h1 := quote_len v
  have h2 := fillRest_len v []
  simp only [List.length_nil] at h2
  split <;> omega
theorem fillV_made (v : List UInt8) (r : Bool) : madeOf pathL (fillV v r) = true := by
  unfold fillV
  split
  · exact fillRest_made v []
  · exact made_quote v
abbrev noSl (y : UInt8) : Bool := decide (y ≠ 47)
/-- A pattern's text with parameters in their places. -/
def fillG (b : Bool) (q : List UInt8) (ps : List Fld) : Option (List UInt8 × List Fld) :=
  match q with
  | [] => some ([], ps)
  | x :: r => if b = true ∧ (x = 58 ∨ x = 42) then (match ps with
      | [] => none
      | f :: ps' => if f.1 = r.takeWhile noSl then (fillG false (r.dropWhile noSl) ps').map fun o => (fillV f.2 (decide (x = 42)) ++ o.1, o.2) else none)
    else (fillG (decide (x = 47)) r ps).map fun o => (x :: o.1, o.2)
termination_by q.length
decreasing_by
  · have h : (r.dropWhile noSl).length ≤ r.length := (List.dropWhile_sublist _).length_le
    simp only [List.length_cons]
    exact Nat.lt_succ_of_le h
  · simp
theorem fillG_nil (b : Bool) (ps : List Fld) : fillG b [] ps = some ([], ps) := by rw [fillG]
theorem fillG_cons {b : Bool} {x : UInt8} {r : List UInt8} {ps : List Fld} (h : ¬ (b = true ∧ (x = 58 ∨ x = 42))) : fillG b (x :: r) ps = (fillG (decide (x = 47)) r ps).map fun o => (x :: o.1, o.2) := by
  rw [fillG.eq_def]
  dsimp only
  rw [if_neg h]
theorem fillG_par {x : UInt8} {r : List UInt8} {f : Fld} {ps : List Fld} (h : x = 58 ∨ x = 42) (e : f.1 = r.takeWhile noSl) : fillG true (x :: r) (f :: ps) = (fillG false (r.dropWhile noSl) ps).map fun o => (fillV f.2 (decide (x = 42)) ++ o.1, o.2) := by
  rw [fillG.eq_def]
  dsimp only
  rw [if_pos ⟨rfl, h⟩, if_pos e]
theorem fillG_some {b : Bool} {x : UInt8} {r : List UInt8} {ps : List Fld} {o : List UInt8 × List Fld} (hb : b = true ∧ (x = 58 ∨ x = 42)) (h : fillG b (x :: r) ps = some o) :
    ∃ f ps' o', ps = f :: ps' ∧ f.1 = r.takeWhile noSl ∧ fillG false (r.dropWhile noSl) ps' = some o' ∧ o = (fillV f.2 (decide (x = 42)) ++ o'.1, o'.2) := by
  rw [fillG.eq_def] at h
  dsimp only at h
  rw [if_pos hb] at h
  cases ps with
  | nil => cases h
  | cons f ps' =>
    dsimp only at h
    split at h
    · rename_i e
      obtain ⟨o', h1, h2⟩ := Option.map_eq_some_iff.1 h
      exact ⟨f, ps', o', rfl, e, h1, h2.symm⟩
    · cases h
def atEnd (q : List UInt8) : Prop := q = [] ∨ ∃ t, q = 47 :: t
theorem fill_end {q : List UInt8} (hq : atEnd q) (b : Bool) (ps : List Fld) : fillG b q ps = fillG false q ps := by
  rcases hq with rfl | ⟨t, rfl⟩
  · rw [fillG_nil, fillG_nil]
  · rw [fillG_cons (by decide +revert), fillG_cons (by decide)]
theorem fill_lit : ∀ (s q : List UInt8) (ps : List Fld) (b : Bool), 47 ∉ s → atEnd q → (b = true → s.head? ≠ some 58 ∧ s.head? ≠ some 42) → fillG b (s ++ q) ps = (fillG false q ps).map fun o => (s ++ o.1, o.2)
  | [], q, ps, b, _, hq, _ => by
    rw [List.nil_append, fill_end hq]
    cases fillG false q ps <;> rfl
  | x :: s, q, ps, b, hs, hq, hb => by
    have hx : x ≠ 47 := fun e => hs (by rw [e]; exact List.mem_cons_self ..)
    rw [List.cons_append, fillG_cons (fun h => by
      have := hb h.1
      rcases h.2 with rfl | rfl
      · exact this.1 rfl
      · exact this.2 rfl), decide_eq_false hx, fill_lit s q ps false (fun h => hs (List.mem_cons_of_mem _ h)) hq (fun h => by cases h), Option.map_map]
    rfl
theorem take_noSl {nm q : List UInt8} (hn : 47 ∉ nm) (hq : atEnd q) : (nm ++ q).takeWhile noSl = nm ∧ (nm ++ q).dropWhile noSl = q := by
  induction nm with
  | nil =>
    rcases hq with rfl | ⟨t, rfl⟩
    · exact ⟨rfl, rfl⟩
    · exact ⟨rfl, rfl⟩
  | cons x r ih =>
    have hx : noSl x = true := decide_eq_true fun e => hn (by rw [e]; exact List.mem_cons_self ..)
    obtain ⟨h1, h2⟩ := ih fun h => hn (List.mem_cons_of_mem _ h)
    rw [List.cons_append, List.takeWhile_cons_of_pos hx, List.dropWhile_cons_of_pos hx, h1, h2]
    exact ⟨rfl, rfl⟩
/-! ## Shapes that segments meet -/
theorem cands_nil {ss : List (List UInt8)} (h : [] ∈ cands ss) : ss = [] := by
  cases ss with
  | nil => rfl
  | cons s r => simp [cands] at h
theorem cands_cons {p : Plc} {d : List Plc} {ss : List (List UInt8)} (h : p :: d ∈ cands ss) : ∃ x xs, ss = x :: xs ∧ ((p = (0, x) ∧ d ∈ cands xs) ∨ (p = (1, []) ∧ d ∈ cands xs) ∨ (p = (2, []) ∧ d = [])) := by
  cases ss with
  | nil => simp [cands] at h
  | cons x xs =>
    refine ⟨x, xs, rfl, ?_⟩
    unfold cands at h
    rcases List.mem_append.1 h with h | h
    · obtain ⟨y, hy, e⟩ := List.mem_map.1 h
      obtain ⟨rfl, rfl⟩ := List.cons.inj e
      exact .inl ⟨rfl, hy⟩
    · rcases List.mem_append.1 h with h | h
      · obtain ⟨y, hy, e⟩ := List.mem_map.1 h
        obtain ⟨rfl, rfl⟩ := List.cons.inj e
        exact .inr (.inl ⟨rfl, hy⟩)
      · have e := List.mem_singleton.1 h
        obtain ⟨rfl, rfl⟩ := List.cons.inj e
        exact .inr (.inr ⟨rfl, rfl⟩)
theorem placeOf_cases {s : List UInt8} {b : Bool} {t : List UInt8} {p : Plc} (h : placeOf s b t = some p) :
    (∃ nm, s = 42 :: nm ∧ b = true ∧ p = (2, nm)) ∨ (∃ nm, s = 58 :: nm ∧ p = (1, nm)) ∨ (s.head? ≠ some 42 ∧ s.head? ≠ some 58 ∧ p = (0, t)) := by
  have hd : ∀ c : UInt8, s.head? = some c → s = c :: s.drop 1 := fun c hc => by
    cases s with
    | nil => cases hc
    | cons x r => simp at hc; rw [hc]; rfl
  unfold placeOf at h
  split at h
  · rename_i hh
    exact .inl ⟨_, hd _ hh.1, hh.2.2, (Option.some.inj h).symm⟩
  · split at h
    · rename_i hh
      exact .inr (.inl ⟨_, hd _ hh.1, (Option.some.inj h).symm⟩)
    · split at h
      · cases h
      · rename_i hh
        exact .inr (.inr ⟨fun e => hh (.inl e), fun e => hh (.inr e), (Option.some.inj h).symm⟩)
abbrev slashed (R : List (List UInt8)) : List UInt8 := R.flatMap fun s => 47 :: s
theorem slashed_end (R : List (List UInt8)) : atEnd (slashed R) := by
  cases R with
  | nil => exact .inl rfl
  | cons s r => exact .inr ⟨_, by rw [slashed, List.flatMap_cons, List.cons_append]⟩
theorem fill_main : ∀ (R : List (List UInt8)) (ls : List Plc) (ss : List (List UInt8)), placesG R (R.map unq) = some ls → (∀ s ∈ R, 47 ∉ s ∧ madeOf pathL s = true) → ls.map keyP ∈ cands ss →
    ∃ O, fillG false (slashed R) (paramsG ls ss) = some (slashed O, []) ∧ (∀ o ∈ O, madeOf pathL o = true) ∧ O.length = R.length ∧ ((∀ p ∈ ls, p.1 ≠ 2) → (∀ o ∈ O, 47 ∉ o) ∧ O.map unq = ss)
  | [], ls, ss, hp, _, hc => by
    obtain rfl : ls = [] := (Option.some.inj hp).symm
    obtain rfl := cands_nil hc
    exact ⟨[], fillG_nil _ _, fun o h => absurd h (by simp), rfl, fun _ => ⟨fun o h => absurd h (by simp), rfl⟩⟩
  | s :: r, ls, ss, hp, hR, hc => by
    have hs := hR s (List.mem_cons_self ..)
    have hr : ∀ x ∈ r, 47 ∉ x ∧ madeOf pathL x = true := fun x hx => hR x (List.mem_cons_of_mem _ hx)
    rw [List.map_cons, placesG] at hp
    simp only [List.headD_cons, List.tail_cons] at hp
    split at hp
    · cases hp
    rename_i p hpl
    obtain ⟨lr, hlr, rfl⟩ := Option.map_eq_some_iff.1 hp
    rw [List.map_cons] at hc
    obtain ⟨x, xs, rfl, hcc⟩ := cands_cons hc
    have hend := slashed_end r
    have hsl : slashed (s :: r) = 47 :: (s ++ slashed r) := rfl
    rw [hsl, fillG_cons (by decide), show decide ((47 : UInt8) = 47) = true from rfl]
    rcases placeOf_cases hpl with ⟨nm, rfl, hb, rfl⟩ | ⟨nm, rfl, rfl⟩ | ⟨h42, h58, rfl⟩
    · have hb : r = [] := of_decide_eq_true hb
      subst hb
      obtain rfl : lr = [] := (Option.some.inj hlr).symm
      have hnm : 47 ∉ nm := fun h => hs.1 (List.mem_cons_of_mem _ h)
      obtain ⟨ht, hd⟩ := take_noSl hnm (q := slashed []) hend
      refine ⟨[fillV (Lib.join (x :: xs) [47]) true], ?_, fun o ho => ?_, rfl, fun h => absurd rfl (h _ (List.mem_cons_self ..))⟩
      · rw [paramsG, if_neg (show ¬ ((2 : Int) = 1) by decide), if_pos rfl, paramsG, List.append_nil, List.cons_append, fillG_par (.inr rfl) (by rw [ht]), hd]
        rw [show slashed [] = [] from rfl, fillG_nil]
        simp [slashed]
      · rw [List.mem_singleton.1 ho]
        exact fillV_made _ _
    · have hk : (1, []) :: lr.map keyP ∈ cands (x :: xs) := hc
      have hxs : lr.map keyP ∈ cands xs := by
        rcases hcc with ⟨e, _⟩ | ⟨_, h⟩ | ⟨e, _⟩
        · cases (Prod.mk.inj e).1
        · exact h
        · cases (Prod.mk.inj e).1
      obtain ⟨O, h1, h2, h3, h4⟩ := fill_main r lr xs hlr hr hxs
      have hnm : 47 ∉ nm := fun h => hs.1 (List.mem_cons_of_mem _ h)
      obtain ⟨ht, hd⟩ := take_noSl hnm hend
      refine ⟨quoteOf x :: O, ?_, fun o ho => ?_, by rw [List.length_cons, h3]; rfl, fun h => ?_⟩
      · rw [paramsG, if_pos rfl, List.headD_cons, List.tail_cons, List.singleton_append, List.cons_append, fillG_par (.inl rfl) (by rw [ht]), hd, h1]
        simp [slashed, fillV]
      · rcases List.mem_cons.1 ho with rfl | ho
        · exact made_quote x
        · exact h2 o ho
      · obtain ⟨h5, h6⟩ := h4 fun q hq => h q (List.mem_cons_of_mem _ hq)
        refine ⟨fun o ho => ?_, by rw [List.map_cons, unq_quote, h6]⟩
        rcases List.mem_cons.1 ho with rfl | ho
        · exact quote_slash x
        · exact h5 o ho
    · have hxs : unq s = x ∧ lr.map keyP ∈ cands xs := by
        rcases hcc with ⟨e, h⟩ | ⟨e, _⟩ | ⟨e, _⟩
        · exact ⟨(Prod.mk.inj e).2, h⟩
        · cases (Prod.mk.inj e).1
        · cases (Prod.mk.inj e).1
      obtain ⟨rfl, hxs⟩ := hxs
      obtain ⟨O, h1, h2, h3, h4⟩ := fill_main r lr xs hlr hr hxs
      refine ⟨s :: O, ?_, fun o ho => ?_, by rw [List.length_cons, h3]; rfl, fun h => ?_⟩
      · rw [paramsG, if_neg (show ¬ ((0 : Int) = 1) by decide), if_neg (show ¬ ((0 : Int) = 2) by decide), List.nil_append, List.tail_cons, fill_lit s _ _ true hs.1 hend (fun _ => ⟨h58, h42⟩), h1]
        rfl
      · rcases List.mem_cons.1 ho with rfl | ho
        · exact hs.2
        · exact h2 o ho
      · obtain ⟨h5, h6⟩ := h4 fun q hq => h q (List.mem_cons_of_mem _ hq)
        refine ⟨fun o ho => ?_, by rw [List.map_cons, h6]⟩
        rcases List.mem_cons.1 ho with rfl | ho
        · exact hs.1
        · exact h5 o ho
theorem split_slashed : ∀ l : List UInt8, slashed (splitB 47 l) = 47 :: l
  | [] => rfl
  | x :: r => by
    have ih := split_slashed r
    unfold splitB
    by_cases hx : x = 47
    · rw [if_pos hx, slashed, List.flatMap_cons]
      show 47 :: slashed (splitB 47 r) = _
      rw [ih, hx]
    · rw [if_neg hx]
      cases hs : splitB 47 r with
      | nil => exact absurd hs (splitB_ne 47 r)
      | cons p q =>
        rw [hs] at ih
        have e : 47 :: (p ++ slashed q) = 47 :: r := ih
        rw [List.cons.injEq] at e
        show 47 :: x :: (p ++ slashed q) = _
        rw [e.2]
theorem slashed_split : ∀ (o : List UInt8) (O : List (List UInt8)), (∀ x ∈ o :: O, 47 ∉ x) → splitB 47 ((slashed (o :: O)).drop 1) = o :: O
  | o, [], h => by
    show splitB 47 (o ++ []) = _
    rw [List.append_nil]
    exact splitB_none 47 o (h o (List.mem_cons_self ..))
  | o, p :: O, h => by
    have ih := slashed_split p O fun x hx => h x (List.mem_cons_of_mem _ hx)
    have e : (slashed (o :: p :: O)).drop 1 = o ++ 47 :: (slashed (p :: O)).drop 1 := rfl
    rw [e, splitB_app 47 _ _ (h o (List.mem_cons_self ..)), ih]
theorem made_parts : ∀ (n : Nat) (l : List UInt8), l.length ≤ n → madeOf pathL l = true → ∀ s ∈ splitB 47 l, madeOf pathL s = true
  | _, [], _, _, s, hs => by
    rw [List.mem_singleton.1 hs]
    rfl
  | 0, x :: r, hl, _, _, _ => by simp at hl
  | n + 1, x :: r, hl, h, s, hs => by
    rcases made_x pathL path_37 x r h with ⟨hx, h3, h4⟩ | ⟨p, q, t, rfl, rfl, h3, h4, h5⟩
    · have ih := made_parts n r (by simpa using hl) h4
      unfold splitB at hs
      by_cases e : x = 47
      · rw [if_pos e] at hs
        rcases List.mem_cons.1 hs with rfl | hs
        · rfl
        · exact ih s hs
      · rw [if_neg e] at hs
        cases hsp : splitB 47 r with
        | nil => exact absurd hsp (splitB_ne 47 r)
        | cons u v =>
          rw [hsp] at hs ih
          rcases List.mem_cons.1 hs with rfl | hs
          · rw [made_cons pathL x u hx, h3, ih u (List.mem_cons_self ..)]
            rfl
          · exact ih s (List.mem_cons_of_mem _ hs)
    · have ih := made_parts n t (by simp at hl; omega) h5
      have hp := hex_not_slash p h3
      have hq := hex_not_slash q h4
      cases hsp : splitB 47 t with
      | nil => exact absurd hsp (splitB_ne 47 t)
      | cons u v =>
        have e : splitB 47 (37 :: p :: q :: t) = (37 :: p :: q :: u) :: v := by
          rw [splitB, if_neg (by decide), splitB, if_neg hp, splitB, if_neg hq, hsp]
        rw [e] at hs
        rw [hsp] at ih
        rcases List.mem_cons.1 hs with rfl | hs
        · rw [made_37 pathL path_37]
          dsimp only
          rw [h3, h4, ih u (List.mem_cons_self ..)]
          rfl
        · exact ih s (List.mem_cons_of_mem _ hs)
theorem made_slashed : ∀ O : List (List UInt8), (∀ o ∈ O, madeOf pathL o = true) → madeOf pathL (slashed O) = true
  | [], _ => rfl
  | o :: O, h => by
    show madeOf pathL (47 :: (o ++ slashed O)) = true
    rw [made_cons pathL 47 _ (by decide), made_app _ path_37 _ _ _ (Nat.le_refl _) (h o (List.mem_cons_self ..)), made_slashed O fun x hx => h x (List.mem_cons_of_mem _ hx)]
    decide
/-- Is there a sign of a rest? -/
def restG : Bool → List UInt8 → Bool
  | _, [] => false
  | b, x :: r => (b && decide (x = 42)) || restG (decide (x = 47)) r
theorem rest_split : ∀ (b : Bool) (q : List UInt8), restG b q = false → ∃ h t, splitB 47 q = h :: t ∧ (b = true → h.head? ≠ some 42) ∧ ∀ s ∈ t, s.head? ≠ some 42
  | b, [], _ => ⟨[], [], rfl, fun _ => by simp, fun s h => by cases h⟩
  | b, x :: r, h => by
    unfold restG at h
    rw [Bool.or_eq_false_iff] at h
    obtain ⟨h1, h2⟩ := h
    obtain ⟨u, t, e, h3, h4⟩ := rest_split _ r h2
    unfold splitB
    by_cases hx : x = 47
    · rw [if_pos hx, e]
      rw [decide_eq_true hx] at h3
      refine ⟨[], u :: t, rfl, fun _ => by simp, fun s hs => ?_⟩
      rcases List.mem_cons.1 hs with rfl | hs
      · exact h3 rfl
      · exact h4 s hs
    · rw [if_neg hx, e]
      refine ⟨x :: u, t, rfl, fun hb => ?_, h4⟩
      subst hb
      simpa using h1
theorem rest_places : ∀ (R T : List (List UInt8)) (ls : List Plc), placesG R T = some ls → (∀ s ∈ R, s.head? ≠ some 42) → ∀ p ∈ ls, p.1 ≠ 2
  | [], _, ls, h, _, p, hp => by
    obtain rfl : ls = [] := (Option.some.inj h).symm
    cases hp
  | s :: r, T, ls, h, hR, p, hp => by
    rw [placesG] at h
    split at h
    · cases h
    rename_i q hq
    obtain ⟨lr, hlr, rfl⟩ := Option.map_eq_some_iff.1 h
    rcases List.mem_cons.1 hp with rfl | hp
    · rcases placeOf_cases hq with ⟨nm, rfl, _⟩ | ⟨nm, _, rfl⟩ | ⟨_, _, rfl⟩
      · exact absurd rfl (hR _ (List.mem_cons_self ..))
      · show ¬ ((1 : Int) = 2)
        decide
      · show ¬ ((0 : Int) = 2)
        decide
    · exact rest_places r _ lr hlr (fun x hx => hR x (List.mem_cons_of_mem _ hx)) p hp
/-- Parameters in their places make the path's segments. -/
theorem fills_law {p : List UInt8} {ls : List Plc} {ss : List (List UInt8)} (hp : pathOf p = true) (hl : placesOf p = some ls) (hc : ls.map keyP ∈ cands ss) :
    ∃ out, fillG false p (paramsG ls ss) = some (out, []) ∧ pathOf out = true ∧ (restG false p = false → segs out = ss) := by
  obtain ⟨l, rfl⟩ := path_head hp
  unfold placesOf at hl
  split at hl
  rotate_left
  · cases hl
  have hs : segs (47 :: l) = (splitB 47 l).map unq := rfl
  rw [hs, List.drop_succ_cons, List.drop_zero] at hl
  have hmade : madeOf pathL l = true := by
    unfold pathOf at hp
    rw [Bool.and_eq_true] at hp
    have := hp.2
    rw [made_cons pathL 47 l (by decide), Bool.and_eq_true] at this
    exact this.2
  obtain ⟨O, h1, h2, h3, h4⟩ := fill_main (splitB 47 l) ls ss hl (fun s hs => ⟨(splitB_mem 47 l s hs).1, made_parts l.length l (Nat.le_refl _) hmade s hs⟩) hc
  rw [split_slashed] at h1
  cases O with
  | nil =>
    exact absurd (List.eq_nil_of_length_eq_zero h3.symm) (splitB_ne 47 l)
  | cons o O =>
    refine ⟨_, h1, ?_, fun hr => ?_⟩
    · unfold pathOf
      rw [made_slashed _ h2]
      rfl
    · have hr2 : restG true l = false := hr
      obtain ⟨u, t, e, h5, h6⟩ := rest_split true l hr2
      obtain ⟨h7, h8⟩ := h4 (rest_places _ _ _ hl fun s hs => by
        rw [e] at hs
        rcases List.mem_cons.1 hs with rfl | hs
        · exact h5 rfl
        · exact h6 s hs)
      unfold segs
      rw [slashed_split o O h7, h8]
end Go.Proofs.YtnaeeklnlddcaaaDoor.Vex
