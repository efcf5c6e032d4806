/- The law FieldBack, walked. -/
import Derived.Test.YtgemjpoggbdfaaaDoorFieldLn
import Derived.Test.YtgemjpoggbdfaaaDoorFieldG
import Derived.Test.YtgemjpoggbdfaaaDoorFieldPl
namespace Go.Proofs.YtgemjpoggbdfaaaDoor
open Go.RowKit

theorem kept1 {w w' : World} (hb : Below w.heap.size w w') {p : Addr} {u : Value} (h : w.cell? p = some u) : w'.cell? p = some u := (hb.cell (World.block_lt_of_cell? _ _ h)).trans h
theorem Parse_is (s N V : ByteArray) (m : Int) (w : World) (hN : L N = parseN (L s)) (hV : L V = parseV (L s)) {E : Int} (hE : parseE (L s) = E) (hs : s.size < 4294967281) (hm : w.cell? ⟨0, 0, none⟩ = some (.int .i64 m)) :
    Calls Tryd.prog 22 #[.string s] w fun e w' => e = .returned (.tuple #[.agg #[.string N, .string V], .int .i64 E]) ∧ Below w.heap.size w w' :=
  (Parse_c s m w hs hm).mono fun _ _ ⟨n, v, he, _, _, hn, hv, hb⟩ => ⟨by rw [he, L_inj (hn.out.trans hN.symm), L_inj (hv.out.trans hV.symm), hE], hb⟩
theorem Line_is (n v l : ByteArray) (w : World) (hl : L l = lineOf (L n) (L v)) {E : Int} (hE : fieldE (L n) (L v) = E) (hn : n.size ≤ 1000000000000) :
    Calls Tryd.prog 24 #[.agg #[.string n, .string v]] w fun e w' => e = .returned (.tuple #[.string l, .int .i64 E]) ∧ Below w.heap.size w w' :=
  (Line_c n v w hn).mono fun _ _ ⟨l', he, hl', hb⟩ => ⟨by rw [he, L_inj (hl'.out.trans hl.symm), hE], hb⟩
theorem some_bytes (l : List UInt8) : ∃ r : ByteArray, L r = l := ⟨⟨l.toArray⟩, L_mk l⟩

theorem alive18_c (m : Int) (w : World) (hm : w.cell? ⟨0, 0, none⟩ = some (.int .i64 m)) : Calls Tryd.prog 34 #[] w fun e w' => e = .returned (.bool true) ∧ Below w.heap.size w w' := by
  go_enter Tryd.func34, Tryd.ntmps34
  go_wp2_with fail
  refine (Parse_is _ ⟨#[104, 111, 115, 116]⟩ ⟨#[97, 32, 98]⟩ m _ (E := 0) (by kernel_rfl) (by kernel_rfl) (by kernel_rfl) (by decide) hm).mono ?_
  rintro e w1 ⟨rfl, hb⟩
  go_wp2_with fail
  go_ret
  exact ⟨rfl, hb.alloc hb.size _⟩

set_option maxRecDepth 100000 in
set_option maxHeartbeats 8000000 in
theorem FieldBack_walk (s n v : ByteArray) (k : Int) (m : Int) (w : World) (hk0 : 0 ≤ k) (hk1 : k ≤ 255) (hm : w.cell? ⟨0, 0, none⟩ = some (.int .i64 m)) :
    Calls Tryd.prog 8 #[.agg #[.string n, .string v], .string s, .int .u8 k] w fun e w' => e = .returned (.bool true) ∧ Below w.heap.size w w' := by
  have HM := Lib.hid hm; clear hm
  have HA := Lib.hid (Two.new w 37 (.string n) (.string v))
  have hB := Lib.hid ((Below.refl w.heap.size w).alloc (Nat.le_refl _) (.cells #[.string n, .string v] 37))
  go_enter Tryd.func8, Tryd.ntmps8
  go_wp2_with fail
  refine (alive18_c m _ (kept1 hB.out HM.out)).mono ?_
  rintro e w1 ⟨rfl, hb⟩
  have HA := Lib.hid (show Two _ w.heap.size 37 (.string n) (.string v) from by first | exact HA.out.below hb | exact (HA.out.alloc _).below hb | exact ((HA.out.alloc _).alloc _).below hb)
  have hB := Lib.hid (show Below w.heap.size w _ from by first | exact below_next hB.out hb | exact below_next (hB.out.alloc hB.out.size _) hb)
  have hx0 := HA.out.c0; have hx1 := HA.out.c1; have hxl := HA.out.lt
  clear hb
  by_cases h3 : 3000 < s.size
  · have g : decide ((3000 : Int) < (s.size : Int)) = true := by simp; omega
    go_wp2_with fail
    go_ret
    exact ⟨rfl, hB.out⟩
  have g : decide ((3000 : Int) < (s.size : Int)) = false := by simp; omega
  have HZ := Lib.hid (Two.new w1 37 (.string n) (.string v))
  cases hg : greatOne n v
  case true =>
    go_wp2_with fail
    refine (Great_k n v w1.heap.size _ HZ.out.c0 HZ.out.c1 hg).mono ?_
    rintro e w2 ⟨rfl, q, rfl⟩
    go_wp2_with fail
    go_ret
    exact ⟨rfl, below_dr (hB.out.alloc hB.out.size _) q⟩
  case false =>
    obtain ⟨hn, hv, hnv⟩ := greatOne_no hg
    go_wp2_with fail
    refine (Great_k n v w1.heap.size _ HZ.out.c0 HZ.out.c1 hg).mono ?_
    rintro e w2 ⟨rfl, q, rfl⟩
    have HA := Lib.hid (((HA.out.alloc (.cells #[.string n, .string v] 37))).drewN q)
    have hB := Lib.hid (below_dr (hB.out.alloc hB.out.size (.cells #[.string n, .string v] 37)) q)
    obtain ⟨l, hl⟩ := some_bytes (lineOf (L n) (L v))
    clear hg HZ
    cases hf : fieldOK (L n) (L v)
    · have HF := Lib.hid (show fieldE (L n) (L v) = 3 from by unfold fieldE; rw [hf]; rfl)
      go_wp2_with fail
      refine (Line_is n v l _ hl HF.out (by omega)).mono ?_
      rintro e w3 ⟨rfl, hb⟩
      have HA := Lib.hid (show Two _ w.heap.size 37 (.string n) (.string v) from by first | exact HA.out.below hb | exact (HA.out.alloc _).below hb | exact ((HA.out.alloc _).alloc _).below hb)
      have hB := Lib.hid (show Below w.heap.size w _ from by first | exact below_next hB.out hb | exact below_next (hB.out.alloc hB.out.size _) hb)
      have hx0 := HA.out.c0; have hx1 := HA.out.c1; have hxl := HA.out.lt
      clear hb hf hl HF
      have hB3000 : s.size < 4294967281 := by omega
      cases hp : parseOK (L s)
      · have HE := Lib.hid (show parseE (L s) = 3 from by unfold parseE; rw [hp]; rfl)
        have HN := Lib.hid (show L ⟨#[]⟩ = parseN (L s) from by unfold parseN; rw [hp]; rfl)
        have HV := Lib.hid (show L ⟨#[]⟩ = parseV (L s) from by unfold parseV; rw [hp]; rfl)
        go_wp2_with fail
        refine (Parse_is s ⟨#[]⟩ ⟨#[]⟩ m _ HN.out HV.out HE.out hB3000 (kept1 hB.out HM.out)).mono ?_
        rintro e w6 ⟨rfl, hb⟩
        have hB := Lib.hid (below_next hB.out hb); clear hb
        go_wp2_with fail
        go_ret
        exact ⟨rfl, hB.out.alloc hB.out.size _⟩
      · obtain ⟨N, hN⟩ := some_bytes (parseN (L s))
        obtain ⟨V, hV⟩ := some_bytes (parseV (L s))
        obtain ⟨hF, hsz⟩ := parse_field hp
        rw [← hN, ← hV] at hF hsz
        rw [L_length, L_length, L_length] at hsz
        obtain ⟨l2, hl2⟩ := some_bytes (lineOf (L N) (L V))
        obtain ⟨p1, p2, p3⟩ := parse_plain (L N) (L V) hF (by rw [L_length, L_length]; omega)
        have hl2z : l2.size < 4294967281 := by rw [← L_length, hl2]; unfold lineOf; rw [if_pos hF]; simp [L_length]; omega
        have HE := Lib.hid (show parseE (L s) = 0 from by unfold parseE; rw [hp]; rfl)
        have HN := Lib.hid hN; have HV := Lib.hid hV
        have HFE := Lib.hid (show fieldE (L N) (L V) = 0 from by unfold fieldE; rw [hF]; rfl)
        have HL2 := Lib.hid hl2
        have HE2 := Lib.hid (show parseE (L l2) = 0 from by unfold parseE; rw [hl2, p1]; rfl)
        have HN2 := Lib.hid (show L N = parseN (L l2) from by rw [hl2, p2])
        have HV2 := Lib.hid (show L V = parseV (L l2) from by rw [hl2, p3])
        clear hN hV hF hl2 p1 p2 p3 hp
        go_wp2_with fail
        refine (Parse_is s N V m _ HN.out HV.out HE.out hB3000 (kept1 hB.out HM.out)).mono ?_
        rintro e w6 ⟨rfl, hb⟩
        have hB := Lib.hid (below_next hB.out hb); clear hb
        have HX := Lib.hid (Two.new w6 37 (.string N) (.string V))
        have hB := Lib.hid (hB.out.alloc hB.out.size (.cells #[.string N, .string V] 37))
        go_wp2_with fail
        refine (Line_is N V l2 _ HL2.out HFE.out (by omega)).mono ?_
        rintro e w7 ⟨rfl, hb⟩
        have hB := Lib.hid (below_next hB.out hb)
        have HX := Lib.hid (HX.out.below hb)
        clear hb
        go_wp2_with fail
        refine (Parse_is l2 N V m _ HN2.out HV2.out HE2.out hl2z (kept1 hB.out HM.out)).mono ?_
        rintro e w8 ⟨rfl, hb⟩
        have hB := Lib.hid (below_next hB.out hb)
        have HX := Lib.hid (HX.out.below hb)
        have hx0 := HX.out.c0; have hx1 := HX.out.c1; have hxl := HX.out.lt
        clear hb
        have HX := Lib.hid (HX.out.alloc (.cells #[.string N, .string V] 37))
        have hB := Lib.hid (hB.out.alloc hB.out.size (.cells #[.string N, .string V] 37))
        have HY := Lib.hid (Two.new w8 37 (.string N) (.string V))
        go_wp2_with fail
        refine (Check_k N V _ (by omega) HFE.out).mono ?_
        rintro e w9 ⟨rfl, hb⟩
        have hB := Lib.hid (below_next hB.out hb)
        have HX := HX.out.below hb; have HY := HY.out.below hb
        have hx0 := HX.c0; have hx1 := HX.c1; have hxl := HX.lt
        have hy0 := HY.c0; have hy1 := HY.c1
        clear hb
        go_wp2_with fail
        go_ret
        exact ⟨rfl, hB.out⟩
    · have HF := Lib.hid (show fieldE (L n) (L v) = 0 from by unfold fieldE; rw [hf]; rfl)
      obtain ⟨p1, p2, p3⟩ := parse_plain (L n) (L v) hf (by rw [L_length, L_length]; omega)
      have hlz : l.size < 4294967281 := by rw [← L_length, hl]; unfold lineOf; rw [if_pos hf]; simp [L_length]; omega
      have HE1 := Lib.hid (show parseE (L l) = 0 from by unfold parseE; rw [hl, p1]; rfl)
      have HN1 := Lib.hid (show L n = parseN (L l) from by rw [hl, p2])
      have HV1 := Lib.hid (show L v = parseV (L l) from by rw [hl, p3])
      have HW := Lib.hid (fun k hk => parse_wide (L n) (L v) k hf (by rw [L_length, L_length]; omega) hk)
      have HLn := Lib.hid hl
      clear hl p1 p2 p3 hf
      go_wp2_with fail
      refine (Line_is n v l _ HLn.out HF.out (by omega)).mono ?_
      rintro e w3 ⟨rfl, hb⟩
      have HA := Lib.hid (show Two _ w.heap.size 37 (.string n) (.string v) from by first | exact HA.out.below hb | exact (HA.out.alloc _).below hb | exact ((HA.out.alloc _).alloc _).below hb)
      have hB := Lib.hid (show Below w.heap.size w _ from by first | exact below_next hB.out hb | exact below_next (hB.out.alloc hB.out.size _) hb)
      have hx0 := HA.out.c0; have hx1 := HA.out.c1; have hxl := HA.out.lt
      clear hb HF
      go_wp2_with fail
      refine (Parse_is l n v m _ HN1.out HV1.out HE1.out hlz (kept1 hB.out HM.out)).mono ?_
      rintro e w4 ⟨rfl, hb⟩
      have HA := Lib.hid (show Two _ w.heap.size 37 (.string n) (.string v) from by first | exact HA.out.below hb | exact (HA.out.alloc _).below hb | exact ((HA.out.alloc _).alloc _).below hb)
      have hB := Lib.hid (show Below w.heap.size w _ from by first | exact below_next hB.out hb | exact below_next (hB.out.alloc hB.out.size _) hb)
      have hx0 := HA.out.c0; have hx1 := HA.out.c1; have hxl := HA.out.lt
      clear hb
      have HX := Lib.hid (Two.new w4 37 (.string n) (.string v))
      have HA := Lib.hid (HA.out.alloc (.cells #[.string n, .string v] 37))
      have hB := Lib.hid (hB.out.alloc hB.out.size (.cells #[.string n, .string v] 37))
      go_wp2_with fail
      go_loop [12, 13] (fun o i => ∃ (j : Nat) (r : ByteArray), j ≤ 8 ∧ (j : Int) ≤ k % 9 ∧ i = .int .i64 j ∧ o = .string r ∧ r.size = n.size + 1 + j ∧ Hid (L r = L n ++ [58] ++ List.replicate j 32)) (fun _ i => 9 - (intOf i).toNat)
      case atStart =>
        refine ⟨0, _, by omega, by omega, rfl, rfl, ?_, ?_⟩
        · rw [ByteArray.size_append]; rfl
        · show _ = _; rw [L_add]; simp; rfl
      case round =>
        obtain ⟨j, r, hj8, hjk, rfl, rfl, hrz, hI⟩ := hrel
        by_cases hlt : (j : Int) < k % 9
        · go_wp2_with fail
          go_round
          case rel =>
            refine ⟨j + 1, _, by omega, by omega, by go_num, rfl, ?_, ?_⟩
            · rw [ByteArray.size_append, hrz]; show _ + 1 = _; omega
            · show _ = _; rw [L_add, hI.out, List.replicate_succ', L_one]; simp
          case measure => simp [intOf]; omega
        · obtain ⟨p1, p2, p3⟩ := HW.out j (by omega)
          have HP := Lib.hid (And.intro p1 (And.intro p2 p3))
          clear p1 p2 p3
          go_wp2_with fail
          refine (Parse_is _ n v m _ (E := 0) ?_ ?_ ?_ ?_ (kept1 hB.out HM.out)).mono ?_
          · rw [L_add, L_add, hI.out]; exact HP.out.2.1.symm
          · rw [L_add, L_add, hI.out]; exact HP.out.2.2.symm
          · unfold parseE; rw [L_add, L_add, hI.out]; exact if_pos HP.out.1
          · rw [ByteArray.size_append, ByteArray.size_append, hrz]; show _ + 1 < 4294967281; omega
          rintro e w5 ⟨rfl, hb⟩
          have HX := Lib.hid (HX.out.below hb)
          have HA := Lib.hid (show Two _ w.heap.size 37 (.string n) (.string v) from by first | exact HA.out.below hb | exact (HA.out.alloc _).below hb | exact ((HA.out.alloc _).alloc _).below hb)
          have hB := Lib.hid (show Below w.heap.size w _ from by first | exact below_next hB.out hb | exact below_next (hB.out.alloc hB.out.size _) hb)
          have hx0 := HA.out.c0; have hx1 := HA.out.c1; have hxl := HA.out.lt
          clear hb
          have hx2 := HX.out.c0; have hx3 := HX.out.c1; have hxm := HX.out.lt
          have hB := Lib.hid (hB.out.alloc hB.out.size (.cells #[.string n, .string v] 37))
          have hB3000 : s.size < 4294967281 := by omega
          cases hp : parseOK (L s)
          · have HE := Lib.hid (show parseE (L s) = 3 from by unfold parseE; rw [hp]; rfl)
            have HN := Lib.hid (show L ⟨#[]⟩ = parseN (L s) from by unfold parseN; rw [hp]; rfl)
            have HV := Lib.hid (show L ⟨#[]⟩ = parseV (L s) from by unfold parseV; rw [hp]; rfl)
            go_wp2_with fail
            refine (Parse_is s ⟨#[]⟩ ⟨#[]⟩ m _ HN.out HV.out HE.out hB3000 (kept1 hB.out HM.out)).mono ?_
            rintro e w6 ⟨rfl, hb⟩
            have hB := Lib.hid (below_next hB.out hb); clear hb
            go_wp2_with fail
            go_ret
            exact ⟨rfl, hB.out.alloc hB.out.size _⟩
          · obtain ⟨N, hN⟩ := some_bytes (parseN (L s))
            obtain ⟨V, hV⟩ := some_bytes (parseV (L s))
            obtain ⟨hF, hsz⟩ := parse_field hp
            rw [← hN, ← hV] at hF hsz
            rw [L_length, L_length, L_length] at hsz
            obtain ⟨l2, hl2⟩ := some_bytes (lineOf (L N) (L V))
            obtain ⟨p1, p2, p3⟩ := parse_plain (L N) (L V) hF (by rw [L_length, L_length]; omega)
            have hl2z : l2.size < 4294967281 := by rw [← L_length, hl2]; unfold lineOf; rw [if_pos hF]; simp [L_length]; omega
            have HE := Lib.hid (show parseE (L s) = 0 from by unfold parseE; rw [hp]; rfl)
            have HN := Lib.hid hN; have HV := Lib.hid hV
            have HFE := Lib.hid (show fieldE (L N) (L V) = 0 from by unfold fieldE; rw [hF]; rfl)
            have HL2 := Lib.hid hl2
            have HE2 := Lib.hid (show parseE (L l2) = 0 from by unfold parseE; rw [hl2, p1]; rfl)
            have HN2 := Lib.hid (show L N = parseN (L l2) from by rw [hl2, p2])
            have HV2 := Lib.hid (show L V = parseV (L l2) from by rw [hl2, p3])
            clear hN hV hF hl2 p1 p2 p3 hp
            go_wp2_with fail
            refine (Parse_is s N V m _ HN.out HV.out HE.out hB3000 (kept1 hB.out HM.out)).mono ?_
            rintro e w6 ⟨rfl, hb⟩
            have hB := Lib.hid (below_next hB.out hb); clear hb
            have HX := Lib.hid (Two.new w6 37 (.string N) (.string V))
            have hB := Lib.hid (hB.out.alloc hB.out.size (.cells #[.string N, .string V] 37))
            go_wp2_with fail
            refine (Line_is N V l2 _ HL2.out HFE.out (by omega)).mono ?_
            rintro e w7 ⟨rfl, hb⟩
            have hB := Lib.hid (below_next hB.out hb)
            have HX := Lib.hid (HX.out.below hb)
            clear hb
            go_wp2_with fail
            refine (Parse_is l2 N V m _ HN2.out HV2.out HE2.out hl2z (kept1 hB.out HM.out)).mono ?_
            rintro e w8 ⟨rfl, hb⟩
            have hB := Lib.hid (below_next hB.out hb)
            have HX := Lib.hid (HX.out.below hb)
            have hx0 := HX.out.c0; have hx1 := HX.out.c1; have hxl := HX.out.lt
            clear hb
            have HX := Lib.hid (HX.out.alloc (.cells #[.string N, .string V] 37))
            have hB := Lib.hid (hB.out.alloc hB.out.size (.cells #[.string N, .string V] 37))
            have HY := Lib.hid (Two.new w8 37 (.string N) (.string V))
            go_wp2_with fail
            refine (Check_k N V _ (by omega) HFE.out).mono ?_
            rintro e w9 ⟨rfl, hb⟩
            have hB := Lib.hid (below_next hB.out hb)
            have HX := HX.out.below hb; have HY := HY.out.below hb
            have hx0 := HX.c0; have hx1 := HX.c1; have hxl := HX.lt
            have hy0 := HY.c0; have hy1 := HY.c1
            clear hb
            go_wp2_with fail
            go_ret
            exact ⟨rfl, hB.out⟩
end Go.Proofs.YtgemjpoggbdfaaaDoor
