/- The program's reader of a list of entity tags: blank, take, entity, Core, cores, Match. -/
import Derived.Test.YtgemjpoggbdfaaaDoorTagP
namespace Go.Proofs.YtgemjpoggbdfaaaDoor
open Go.RowKit

theorem blank_c (s : ByteArray) (b : Nat) (w : World) (h : Boxed w b 63 (.string s)) :
    Calls Tryd.prog 69 #[.pointer (some ⟨b, 0, none⟩)] w fun e w' => e = .returned (.tuple #[]) ∧ ∃ r, r.size ≤ s.size ∧ Hid (L r = trimLB (L s)) ∧ Boxed w' b 63 (.string r) ∧ w.grownBy w' (some b) := by
  have hc := h.cell
  have hlt := h.lt
  have HB := Lib.hid h
  clear h
  go_enter Tryd.func69, Tryd.ntmps69
  go_wp2_with (go_at_call 81; refine (TrimLeft_c _ _).mono ?_; rintro e w1 ⟨r, rfl, hz, hr, hb⟩; have hB1 := boxed_below HB.out hb; have hc1 := hB1.cell; have hf1 := hB1.frozen; have HB1 := Lib.hid hB1; clear hB1)
  go_end0
  exact ⟨rfl, r, hz, hr, HB1.out.set _, grown_set (grown_of_below hb _) _⟩

theorem take_c (s p : ByteArray) (b : Nat) (w : World) (h : Boxed w b 63 (.string s)) :
    Calls Tryd.prog 70 #[.pointer (some ⟨b, 0, none⟩), .string p] w fun e w' => e = .returned (.bool (Lib.hasPrefix (L s) (L p))) ∧ ∃ r, r.size ≤ s.size ∧ Hid (L r = Lib.trimPrefix (L s) (L p)) ∧ Boxed w' b 63 (.string r) ∧ w.grownBy w' (some b) := by
  have hc := h.cell
  have hf := h.frozen
  have hlt := h.lt
  have HB := Lib.hid h
  clear h
  go_enter Tryd.func70, Tryd.ntmps70
  go_wp2_with (go_at_call 82; refine (CutPrefix_c _ _ _).mono ?_; rintro e w1 ⟨r, rfl, hz, hr, rfl⟩)
  go_ret
  exact ⟨rfl, r, hz, hr, HB.out.set _, grown_set (World.grownBy.refl _ _) _⟩

/-- What 'entity' leaves: the core and the rest, or nothing and the old text. -/
def entR (l : List UInt8) : Option (List UInt8 × List UInt8) → List UInt8 × Bool × List UInt8
  | some p => (p.1, true, p.2)
  | none => ([], false, l)
def entB (l : List UInt8) : Bool := (entity l).isSome
def entC (l : List UInt8) : List UInt8 := (entR l (entity l)).1
def entL (l : List UInt8) : List UInt8 := (entR l (entity l)).2.2

theorem ent_yes (l l1 l2 : List UInt8) (h1 : l1 = Lib.trimPrefix l [87, 47]) (hp : Lib.hasPrefix l1 [34] = true) (h2 : l2 = Lib.trimPrefix l1 [34]) : entity l = quoteEnd l2 := by
  unfold entity stripW
  rw [← h1]
  cases l1 with
  | nil => simp [Lib.hasPrefix] at hp
  | cons x r =>
    rw [h2, Lib.trimPrefix, if_pos hp]
    simp [Lib.hasPrefix] at hp
    subst hp
    simp
theorem ent_no (l l1 : List UInt8) (h1 : l1 = Lib.trimPrefix l [87, 47]) (hp : Lib.hasPrefix l1 [34] = false) : entity l = none := by
  unfold entity stripW
  rw [← h1]
  cases l1 with
  | nil => rfl
  | cons x r =>
    simp only
    rw [if_neg]
    intro hx
    unfold Lib.hasPrefix at hp
    rw [b8 (n := 34) (by decide) hx] at hp
    simp at hp
theorem qE_on (x : UInt8) (r : List UInt8) (h : ¬ x.toNat = 34) (hs : stopB x = false) : quoteEnd (x :: r) = (quoteEnd r).map fun p => (x :: p.1, p.2) := by
  rw [quoteEnd, if_neg h, if_neg (by simp [hs])]
theorem qE_quote (x : UInt8) (r : List UInt8) (h : x.toNat = 34) : quoteEnd (x :: r) = some ([], r) := by rw [quoteEnd, if_pos h]
theorem qE_stop (x : UInt8) (r : List UInt8) (h : ¬ x.toNat = 34) (hs : stopB x = true) : quoteEnd (x :: r) = none := by rw [quoteEnd, if_neg h, if_pos hs]
/-- How far the look for the quote has come. -/
def qAt (l : List UInt8) (k : Nat) : Prop := quoteEnd l = (quoteEnd (l.drop k)).map fun p => (l.take k ++ p.1, p.2)
theorem qAt_zero (l : List UInt8) : qAt l 0 := by
  unfold qAt
  simp
theorem qAt_next (s : ByteArray) (k : Nat) (hk : k < s.size) (h : qAt (L s) k) (h1 : ¬ s[k].toNat = 34) (h2 : stopB s[k] = false) : qAt (L s) (k + 1) := by
  unfold qAt at h ⊢
  rw [h, L_drop s k hk, qE_on _ _ h1 h2, L_take s k hk, Option.map_map]
  congr 1
  funext p
  simp
theorem qAt_found (s : ByteArray) (k : Nat) (hk : k < s.size) (h : qAt (L s) k) (h1 : s[k].toNat = 34) : quoteEnd (L s) = some ((L s).take k, (L s).drop (k + 1)) := by
  unfold qAt at h
  rw [h, L_drop s k hk, qE_quote _ _ h1]
  simp
theorem qAt_stop (s : ByteArray) (k : Nat) (hk : k < s.size) (h : qAt (L s) k) (h1 : ¬ s[k].toNat = 34) (h2 : stopB s[k] = true) : quoteEnd (L s) = none := by
  unfold qAt at h
  rw [h, L_drop s k hk, qE_stop _ _ h1 h2]
  rfl
theorem qAt_end (s : ByteArray) (k : Nat) (hk : ¬ k < s.size) (h : qAt (L s) k) : quoteEnd (L s) = none := by
  unfold qAt at h
  rw [h, List.drop_eq_nil_of_le (by rw [L_length]; omega)]
  rfl
theorem L_extract (s : ByteArray) (a b : Nat) : L (s.extract a b) = ((L s).drop a).take (b - a) := Lib.extract_data s a b
theorem L_upto (s : ByteArray) (k : Nat) : L (s.extract 0 k) = (L s).take k := by rw [L_extract]; simp
theorem L_from (s : ByteArray) (k : Nat) : L (s.extract k s.size) = (L s).drop k := by
  rw [L_extract, List.take_of_length_le (by rw [List.length_drop, L_length]; omega)]

def EntPost (s : ByteArray) (b : Nat) (w : World) (e : Ending) (w' : World) : Prop :=
  ∃ c r, e = .returned (.tuple #[.string c, .bool (entB (L s))]) ∧ c.size ≤ s.size ∧ r.size ≤ s.size ∧ Hid (L c = entC (L s)) ∧ Hid (L r = entL (L s)) ∧ Boxed w' b 63 (.string r) ∧ w.grownBy w' (some b)
theorem EntPost.no {s : ByteArray} {b : Nat} {w w2 : World} {v : Value} (hE : entity (L s) = none) (hb : Boxed w2 b 63 v) (hg : w.grownBy w2 (some b)) :
    EntPost s b w (.returned (.tuple #[.string ⟨#[]⟩, .bool false])) (w2.setCell ⟨b, 0, none⟩ (.string s)) := by
  refine ⟨⟨#[]⟩, s, ?_, by simp [size_lit], Nat.le_refl _, ?_, ?_, hb.set _, grown_set hg _⟩
  · unfold entB; rw [hE]; rfl
  · show _ = _; unfold entC; rw [hE]; rfl
  · show _ = _; unfold entL; rw [hE]; rfl

set_option maxHeartbeats 2000000 in
theorem entity_c (s : ByteArray) (b : Nat) (w : World) (h : Boxed w b 63 (.string s)) (hs : s.size ≤ 1000000000000) :
    Calls Tryd.prog 42 #[.pointer (some ⟨b, 0, none⟩)] w (EntPost s b w) := by
  have hc := h.cell
  have hlt := h.lt
  have HB := Lib.hid h
  clear h
  go_enter Tryd.func42, Tryd.ntmps42
  go_wp2_with fail
  refine (take_c s _ b _ HB.out).mono ?_
  rintro e w1 ⟨rfl, r1, hz1, hr1, hB1, hg1⟩
  have hc1 := hB1.cell; have hlt1 := hB1.lt
  have HB1 := Lib.hid hB1; clear hB1
  go_wp2_with fail
  refine (take_c r1 _ b _ HB1.out).mono ?_
  rintro e w2 ⟨rfl, r2, hz2, hr2, hB2, hg2⟩
  have hc2 := hB2.cell; have hlt2 := hB2.lt; have hf2 := hB2.frozen
  have HB2 := Lib.hid hB2; clear hB2
  clear hc hc1
  have HG := Lib.hid (hg1.trans hg2); clear hg1 hg2
  by_cases hp : Lib.hasPrefix (L r1) (L ⟨#[34]⟩) = true
  · have HE := Lib.hid (ent_yes _ _ _ hr1.out hp hr2.out)
    clear hr1 hr2
    go_wp2_with fail
    go_loop [21] (fun i => ∃ k : Nat, k ≤ r2.size ∧ i = .int .i64 k ∧ Hid (qAt (L r2) k)) (fun i => r2.size - (intOf i).toNat)
    case atStart => exact ⟨0, Nat.zero_le _, rfl, qAt_zero _⟩
    case round =>
      obtain ⟨k, hk, rfl, hI⟩ := hrel
      by_cases hlt : k < r2.size
      · by_cases hq : r2[k].toNat = 34
        · have g1 : (r2[k].toNat : Int) = 34 := by omega
          have HQ := Lib.hid (HE.out.trans (qAt_found r2 k hlt hI.out hq)); clear hq
          go_wp2_with fail
          go_ret2
          refine ⟨r2.extract 0 k, r2.extract (k + 1) r2.size, ?_, by simp only [ByteArray.size_extract]; omega, by simp only [ByteArray.size_extract]; omega, ?_, ?_, HB2.out.set _, grown_set HG.out _⟩
          · unfold entB; rw [HQ.out]; rfl
          · show _ = _; unfold entC; rw [HQ.out, L_upto]; rfl
          · show _ = _; unfold entL; rw [HQ.out, L_from]; rfl
        · have g1 : ((r2[k].toNat : Int) == 34) = false := by simp; omega
          have HQ := Lib.hid hq; clear hq
          go_wp2_with fail
          all_goals first
            | (go_round
               case rel => exact ⟨k + 1, by omega, by go_num, qAt_next r2 k hlt hI.out HQ.out (by simp only [stopB, stopI]; (first | omega | (simp_all; done) | (simp_all; omega)))⟩
               case measure => simp [intOf]; omega)
            | (go_ret2
               exact EntPost.no (HE.out.trans (qAt_stop r2 k hlt hI.out HQ.out (by simp only [stopB, stopI]; (first | omega | (simp_all; done) | (simp_all; omega))))) HB2.out HG.out)
      · go_wp2_with fail
        go_ret2
        exact EntPost.no (HE.out.trans (qAt_end r2 k hlt hI.out)) HB2.out HG.out
  · have hp' : Lib.hasPrefix (L r1) (L ⟨#[34]⟩) = false := by simpa using hp
    have HE := Lib.hid (ent_no _ _ hr1.out hp')
    go_wp2_with fail
    go_ret2
    exact EntPost.no HE.out HB2.out HG.out
end Go.Proofs.YtgemjpoggbdfaaaDoor
