/- KcArg, KcDoes, KcLsame, KcAbase: one behind the other. -/
import Derived.Test.YtmcibggjolckoaaGreatDoorG42
import Derived.OpenShut
import Derived.Deep.RegionHeld3
import Derived.Deep.DeepCutAuto
import Derived.BigQuiet
import Derived.Deep.QuietTactic
namespace Go.Proofs.YtmcibggjolckoaaGreatDoor
open Go Go.RowKit Go.ChangeShapes Go.WideShapes Go.Deep
set_option maxRecDepth 100000
namespace cl
structure Act where
  kind : Nat
  i : Nat
  k : Nat
  n : Nat
  keep : Int
  text : List UInt8
end cl
instance : Inhabited cl.Act := ⟨⟨0, 0, 0, 0, 0, []⟩⟩
def actC (x : cl.Act) : List Value := [.int .u8 (x.kind : Int), .int .u8 (x.i : Int), .int .u8 (x.k : Int), .int .u8 (x.n : Int), .int .i64 x.keep, .string (crcm.mk x.text)]
structure ActOk (x : cl.Act) : Prop where
  kind : x.kind < 256
  i : x.i < 256
  k : x.k < 256
  n : x.n < 256
  keep : -9223372036854775808 ≤ x.keep ∧ x.keep ≤ 9223372036854775807
  text : x.text.length ≤ 9223372036854775807
/-- the slice v holds these acts -/
def Acts (w : World) (v : Value) (l : List cl.Act) : Prop :=
  ∃ A c, v = .slice A l.length c ∧ l.length ≤ maxLen ∧ l.length ≤ c ∧ (0 < l.length → ∃ b o, A = some ⟨b, o, none⟩ ∧ ∀ k, k < l.length → w.rangeAt b (o + k * 6) (actC (l.getD k default)) ∧ ActOk (l.getD k default))
theorem Acts.later {w w' : World} {v : Value} {l : List cl.Act} (h : Acts w v l) (hb : Below w.heap.size w w') : Acts w' v l := by
  obtain ⟨A, c, h1, h2, h3, h4⟩ := h
  exact ⟨A, c, h1, h2, h3, fun h0 => by
    obtain ⟨b, o, e, hh⟩ := h4 h0
    exact ⟨b, o, e, fun k hk => ⟨fun t u ht => cell_later hb ((hh k hk).1 t u ht), (hh k hk).2⟩⟩⟩
theorem acts_of_reading {H : Type} {enc : TypeId × Value → H} {P : Program} {w : World} {base : Nat} {held : Bool} {t e tu ti ts : TypeId} {fuel : Nat} {v : Value} {x : DataW H × List MemPlace}
    {f0 f1 f2 f3 f4 f5 : Field} (ht : P.underlying t = some (.slice e)) (he : P.underlying e = some (.struct #[f0, f1, f2, f3, f4, f5])) (ce : P.cellsOf e = 6) (o0 : f0.offset = 0) (o1 : f1.offset = 1) (o2 : f2.offset = 2) (o3 : f3.offset = 3) (o4 : f4.offset = 4) (o5 : f5.offset = 5)
    (c0 : P.cellsOf f0.type = 1) (c1 : P.cellsOf f1.type = 1) (c2 : P.cellsOf f2.type = 1) (c3 : P.cellsOf f3.type = 1) (c4 : P.cellsOf f4.type = 1) (c5 : P.cellsOf f5.type = 1)
    (e0 : f0.type = tu) (e1 : f1.type = tu) (e2 : f2.type = tu) (e3 : f3.type = tu) (e4 : f4.type = ti) (e5 : f5.type = ts) (uu : P.underlying tu = some (.int .u8)) (ui : P.underlying ti = some (.int .i64)) (us : P.underlying ts = some .string)
    (h : DataW.trod enc P w base (fun _ => true) held fuel t [v] = some x) : ∃ l, Acts w v l := by
  rcases open_slice ht h with h0 | ⟨a, len, cap, m, n, D, Pl, hcs, hb, hl, hm, hmm, _, hx⟩
  · obtain rfl : v = .slice none 0 0 := by simpa using h0.1
    exact ⟨[], none, 0, rfl, Nat.zero_le _, Nat.zero_le _, fun h => absurd h (by simp)⟩
  · obtain rfl : v = .slice (some a) len cap := by simpa using hcs
    simp only [if_true] at hmm
    subst hmm
    have each : ∀ i, i < len → ∃ q : cl.Act, (∀ t u, (actC q)[t]? = some u → w.cell? (a.add (i * 6 + t)) = some u) ∧ ActOk q := by
      intro i hi
      obtain ⟨cs', h1, h2⟩ := hx i (by omega)
      rw [ce] at h1
      obtain ⟨_, hlen, hcell⟩ := World.cells?_some h1
      obtain ⟨xs, k, hk, hxy, _, hxl, hf⟩ := DataW.trod_struct he h2
      match xs, hxl, cs', hlen with
      | [y0, y1, y2, y3, y4, y5], _, [v0, v1, v2, v3, v4, v5], _ =>
        have g0 := hf 0 f0 rfl
        have g1 := hf 1 f1 rfl
        have g2 := hf 2 f2 rfl
        have g3 := hf 3 f3 rfl
        have g4 := hf 4 f4 rfl
        have g5 := hf 5 f5 rfl
        simp [o0, o1, o2, o3, o4, o5, c0, c1, c2, c3, c4, c5] at g0 g1 g2 g3 g4 g5
        have d0 := hcell 0 (by omega)
        have d1 := hcell 1 (by omega)
        have d2 := hcell 2 (by omega)
        have d3 := hcell 3 (by omega)
        have d4 := hcell 4 (by omega)
        have d5 := hcell 5 (by omega)
        rw [add_add] at d0 d1 d2 d3 d4 d5
        rw [e0] at g0
        rw [e1] at g1
        rw [e2] at g2
        rw [e3] at g3
        rw [e4] at g4
        rw [e5] at g5
        obtain ⟨z0, hz0, _, hw0⟩ := DataW.trod_int uu g0
        obtain ⟨z1, hz1, _, hw1⟩ := DataW.trod_int uu g1
        obtain ⟨z2, hz2, _, hw2⟩ := DataW.trod_int uu g2
        obtain ⟨z3, hz3, _, hw3⟩ := DataW.trod_int uu g3
        obtain ⟨z4, hz4, _, hw4⟩ := DataW.trod_int ui g4
        obtain ⟨s, hs1, _, hs2⟩ := DataW.trod_string us g5
        have b0 := bounds_u8 hw0
        have b1 := bounds_u8 hw1
        have b2 := bounds_u8 hw2
        have b3 := bounds_u8 hw3
        have b4 := bounds_i64 hw4
        obtain ⟨n0, rfl⟩ := Int.eq_ofNat_of_zero_le b0.1
        obtain ⟨n1, rfl⟩ := Int.eq_ofNat_of_zero_le b1.1
        obtain ⟨n2, rfl⟩ := Int.eq_ofNat_of_zero_le b2.1
        obtain ⟨n3, rfl⟩ := Int.eq_ofNat_of_zero_le b3.1
        refine ⟨⟨n0, n1, n2, n3, z4, s.data.toList⟩, fun t u ht => ?_, ⟨by have := b0.2; show n0 < 256; omega, by have := b1.2; show n1 < 256; omega, by have := b2.2; show n2 < 256; omega, by have := b3.2; show n3 < 256; omega, b4, ?_⟩⟩
        · have k0 : v0 = .int .u8 (n0 : Int) := by simpa using hz0
          have k1 : v1 = .int .u8 (n1 : Int) := by simpa using hz1
          have k2 : v2 = .int .u8 (n2 : Int) := by simpa using hz2
          have k3 : v3 = .int .u8 (n3 : Int) := by simpa using hz3
          have k4 : v4 = .int .i64 z4 := by simpa using hz4
          have k5 : v5 = .string s := by simpa using hs1
          have hv : [v0, v1, v2, v3, v4, v5] = actC ⟨n0, n1, n2, n3, z4, s.data.toList⟩ := by
            unfold actC
            rw [k0, k1, k2, k3, k4, k5]
            dsimp only
            rw [crcm.mk_of]
          rw [← hv] at ht
          have ht6 : t < 6 := by
            rcases Nat.lt_or_ge t 6 with h1 | h1
            · exact h1
            · rw [List.getElem?_eq_none (by exact h1)] at ht; cases ht
          have hc := hcell t ht6
          rw [add_add] at hc
          rw [hc]
          exact ht
        · show s.data.toList.length ≤ _
          rw [crcm.size_len]
          have : maxLen ≤ 9223372036854775807 := by decide
          omega
    obtain ⟨q, hq⟩ := choose_lt each
    have hlen : ((List.range len).map q).length = len := by simp
    have hget : ∀ k, k < len → ((List.range len).map q).getD k default = q k := fun k hk => by
      rw [List.getD_eq_getElem?_getD, List.getElem?_map, List.getElem?_range hk]; rfl
    refine ⟨(List.range len).map q, some a, m, by rw [hlen], by rw [hlen]; omega, by rw [hlen]; exact hl, fun h0 => ?_⟩
    rw [hlen] at h0
    have ha := (hq 0 h0).1 0 _ rfl
    rw [Nat.zero_mul, add_zero] at ha
    have hsp := spot_none ha
    refine ⟨a.block, a.off, by rw [← hsp], fun k hk => ?_⟩
    rw [hlen] at hk
    rw [hget k hk]
    refine ⟨fun t u ht => ?_, (hq k hk).2⟩
    have h1 := (hq k hk).1 t u ht
    rw [hsp, addr_add] at h1
    rw [Nat.add_assoc]
    exact h1
theorem acts_of_arg {H : Type} {enc : TypeId × Value → H} {w : World} {r : Reach} {b0 base : Nat} {held : Bool} {v : Value} {d : DataW H} {ps : List MemPlace}
    (hv : Value.okWide Tryz.prog w r b0 37 v) (h : DataW.Trod enc Tryz.prog w base (fun _ => true) held 37 v d ps) : ∃ l, Acts w v l := by
  obtain ⟨a, len, cap, rfl⟩ := okWide_slice Tryz.underlying37 hv
  obtain ⟨fuel, hf⟩ := h
  exact acts_of_reading Tryz.underlying37 Tryz.underlying41 (by kernel_rfl) rfl rfl rfl rfl rfl rfl (by kernel_rfl) (by kernel_rfl) (by kernel_rfl) (by kernel_rfl) (by kernel_rfl) (by kernel_rfl) rfl rfl rfl rfl rfl rfl
    Tryz.underlying5 Tryz.underlying3 Tryz.underlying9 hf
/-- at most 150 acts, with texts of at most 100 bytes -/
def boundedB (l : List cl.Act) : Bool := l.all (fun x => decide (x.text.length ≤ 100)) && decide (l.length ≤ 150)
set_option maxHeartbeats 4000000 in
theorem bounded_any {w : World} {v : Value} {l : List cl.Act} (h : Acts w v l) : Calls Tryz.prog 16 #[v] w fun e w' => e = .returned (.bool (boundedB l)) ∧ w = w' := by
  obtain ⟨A, c, rfl, hm, hlc, hA⟩ := h
  have hm2 : l.length ≤ 9223372036854775807 := by unfold maxLen at hm; omega
  obtain ⟨n, hn⟩ : ∃ n, l.length = n := ⟨_, rfl⟩
  have HA := Lib.hid hA
  have HN := Lib.hid hn
  rw [hn] at hm2 hlc ⊢
  have HM := Lib.hid hm2
  have hcI : (n : Int) ≤ (c : Int) := by omega
  clear hA hm hn hm2 hlc
  go_enter Tryz.func16, Tryz.ntmps16
  go_upto_region 2 with fail
  go_loopw [3] (fun i wr => ∃ j : Nat, j ≤ n ∧ i = .int .i64 j ∧ (∀ q, q < j → (l.getD q default).text.length ≤ 100) ∧ w = wr) (fun i _ => n - (intOf i).toNat)
  case atStart => exact ⟨0, Nat.zero_le _, rfl, fun q hq => absurd hq (Nat.not_lt_zero _), rfl⟩
  case round =>
    obtain ⟨j, hj, rfl, hall, rfl⟩ := hrel
    have HALL := Lib.hid hall
    by_cases hlt : j < n
    · have hltI : (j : Int) < (n : Int) := by omega
      have hwj : IntKind.i64.wrap ((j : Int) + 1) = (j : Int) + 1 := wrap_i64_in (by omega) (by have := HM.out; omega)
      obtain ⟨b, o, rfl, hc⟩ := HA.out (by rw [HN.out]; omega)
      obtain ⟨hr, hok⟩ := hc j (by rw [HN.out]; exact hlt)
      have x5 := hr 5 _ rfl
      obtain ⟨T, hT⟩ : ∃ T, (l.getD j default).text = T := ⟨_, rfl⟩
      rw [hT] at x5
      have hsz : (crcm.mk T).size = T.length := crcm.mk_size _
      have HLT := Lib.hid hlt
      have HTT := Lib.hid hT
      clear hr hok hc hall hlt hT hj HA
      by_cases h100 : T.length ≤ 100
      · have hb : decide (100 < (T.length : Int)) = false := decide_eq_false (by omega)
        have H100 := Lib.hid h100
        clear h100
        go_wp2_with fail
        go_roundw
        case rel => exact ⟨j + 1, HLT.out, by go_num, fun q hq => by
          rcases Nat.lt_succ_iff_lt_or_eq.1 hq with h1 | h1
          · exact HALL.out q h1
          · rw [h1, HTT.out]; exact H100.out, by trivial⟩
        case measure => have := HLT.out; simp [intOf]; omega
      · have hb : decide (100 < (T.length : Int)) = true := decide_eq_true (by omega)
        have H100 := Lib.hid h100
        clear h100
        go_wp2_with fail
        go_ret
        refine ⟨?_, rfl⟩
        have hmem : l.getD j default ∈ l := by
          rw [List.getD_eq_getElem?_getD, List.getElem?_eq_getElem (by rw [HN.out]; exact HLT.out)]
          exact List.getElem_mem _
        have e : boundedB l = false := by
          unfold boundedB
          rw [Bool.and_eq_false_iff]
          left
          rw [List.all_eq_false]
          exact ⟨_, hmem, by rw [HTT.out]; simpa using H100.out⟩
        rw [e]
        rfl
    · obtain rfl : j = n := by omega
      clear hall hlt hj HA
      go_wp2_with fail
      go_ret
      refine ⟨?_, rfl⟩
      have e : boundedB l = decide ((j : Int) ≤ 150) := by
        unfold boundedB
        rw [List.all_eq_true.2 (fun x hx => by
          obtain ⟨q, hq, rfl⟩ := List.getElem_of_mem hx
          have := HALL.out q (by rw [← HN.out]; exact hq)
          rw [List.getD_eq_getElem?_getD, List.getElem?_eq_getElem hq] at this
          simpa using this), Bool.true_and, HN.out]
        exact decide_eq_decide.2 ⟨fun h => by omega, fun h => by omega⟩
      rw [e]
      rfl
end Go.Proofs.YtmcibggjolckoaaGreatDoor
namespace Go.Proofs.YtmcibggjolckoaaGreatDoor
open Go Go.RowKit Go.Deep
set_option maxRecDepth 100000
section
variable {B : Nat} {w0 : World} {c n M : Nat} {bs : Nat → Nat} {C : cl.Clu} {g : cl.Gh} {w : World}
theorem Sys.wait (h : Sys B w0 c n M bs C g w) : Calls Tryz.prog 25 #[.pointer (some ⟨c, 0, none⟩)] w fun e w' => e = .returned (.int .i64 (C.way.length : Int)) ∧ w = w' := by
  obtain ⟨R, k, F, wv, h1, h2⟩ := h.at_
  exact waiting_any h1
theorem Sys.lead (h : Sys B w0 c n M bs C g w) : Calls Tryz.prog 14 #[.pointer (some ⟨c, 0, none⟩)] w fun e w' => e = .returned (.int .i64 (cl.leadTo C n)) ∧ Below w.heap.size w w' := by
  obtain ⟨R, k, F, wv, h1, h2⟩ := h.at_
  have := leader_any h1
  rw [h.cn] at this
  exact this
theorem Sys.n7 (h : Sys B w0 c n M bs C g w) : n ≤ 7 := by
  obtain ⟨R, k, F, wv, h1, h2⟩ := h.at_
  have := h1.n7
  rw [h.cn] at this
  exact this
theorem Sys.maps (h : Sys B w0 c n M bs C g w) : ∀ i, i < n → ∃ M, FMap w ((bsF bs) i).b M := by
  obtain ⟨R, k, F, wv, h1, h2⟩ := h.at_
  intro i hi
  obtain ⟨M, hM⟩ := h1.maps i (by rw [h.cn]; exact hi)
  exact ⟨M, by show FMap w (bs i) M; rw [← h2 i hi]; exact hM⟩
end
theorem bd_mono {B M M' : Nat} (h : Bd B M') (hM : M ≤ M') : Bd B M := ⟨by have := h.1; omega, by have := h.2; have : 206 * (M + 2) ≤ 206 * (M' + 2) := Nat.mul_le_mul_left _ (by omega); omega⟩
theorem Next.mono {B : Nat} {w0 : World} {c n M M' : Nat} {bs : Nat → Nat} {C : cl.Clu} {g : cl.Gh} {w w' : World} (h : Next B w0 c n M bs C g w w') (hM : M ≤ M') : Next B w0 c n M' bs C g w w' := by
  obtain ⟨C', g', h1, h2, h3⟩ := h
  exact ⟨C', g', h1.mono hM, h2, h3⟩
theorem Next.pre {B : Nat} {w0 : World} {c n M : Nat} {bs : Nat → Nat} {C : cl.Clu} {g : cl.Gh} {v w w' : World} (h : Next B w0 c n M bs C g w w') (hb : Stay (bsF bs) n v w) : Next B w0 c n M bs C g v w' := by
  obtain ⟨C', g', h1, h2, h3⟩ := h
  exact ⟨C', g', h1, h2, hb.trans h3⟩
theorem tmod_nat (a b : Nat) : ((a : Int)).tmod (b : Int) = ((a % b : Nat) : Int) := by
  rw [Int.tmod_eq_emod_of_nonneg (by omega)]
  omega
set_option maxHeartbeats 16000000 in
theorem does_any {B : Nat} {w0 : World} {c n M : Nat} {bs : Nat → Nat} {C : cl.Clu} {g : cl.Gh} {w : World} (h : Sys B w0 c n M bs C g w) (hb : Bd B (M + 20)) (ht : TabAt w0) (h1 : 1 ≤ n) (x : cl.Act) (ok : ActOk x) (hx : x.text.length ≤ 100) :
    Calls Tryz.prog 17 #[.pointer (some ⟨c, 0, none⟩), .agg (actC x).toArray, .int .i64 (n : Int)] w fun e w' => ∃ v : Int, e = .returned (.int .u64 v) ∧ Next B w0 c n (M + 20) bs C g w w' := by
  obtain ⟨X, bx, hX, hbx, hbX, kb⟩ := box_blk w (actC x) 41
  have h7 := h.n7
  have hv : Vb X bx (actC x) 41 := kb
  have hCA : ∀ W, Below X.heap.size X W → (W.cell? ⟨bx, 0, none⟩ = some (.int .u8 (x.kind : Int)) ∧ W.cell? ⟨bx, 2, none⟩ = some (.int .u8 (x.k : Int)) ∧ W.cell? ⟨bx, 3, none⟩ = some (.int .u8 (x.n : Int)) ∧ W.cell? ⟨bx, 4, none⟩ = some (.int .i64 x.keep) ∧ W.cell? ⟨bx, 5, none⟩ = some (.string (crcm.mk x.text))) := fun W hb => ⟨cell_later hb (hv.cell 0 _ rfl), cell_later hb (hv.cell 2 _ rfl), cell_later hb (hv.cell 3 _ rfl), cell_later hb (hv.cell 4 _ rfl), cell_later hb (hv.cell 5 _ rfl)⟩
  have x1 := hv.cell 1 _ rfl
  obtain ⟨i, hi⟩ : ∃ i, x.i % n = i := ⟨_, rfl⟩
  have hin : i < n := by rw [← hi]; exact Nat.mod_lt _ h1
  have hw1 : IntKind.i64.wrap (x.i : Int) = (x.i : Int) := wrap_i64_in (by omega) (by have := ok.i; omega)
  have hm1 : ((x.i : Int)).tmod (n : Int) = (i : Int) := by rw [tmod_nat, hi]
  have hCAx := Lib.hid hCA
  have HX := Lib.hid hX
  have HBX := Lib.hid hbx
  have HB0 := Lib.hid hbX
  have HS := Lib.hid (h.later hbX)
  have HV := Lib.hid hv
  have HIN := Lib.hid hin
  have HOK := Lib.hid ok
  have HW := Lib.hid (h.later hbX).wait
  have HN7 := Lib.hid h7
  have HBD := Lib.hid hb
  have HT := Lib.hid ht
  have HXT := Lib.hid hx
  have H1 := Lib.hid h1
  obtain ⟨xi, hxi⟩ : ∃ i, x.i = i := ⟨_, rfl⟩
  rw [hxi] at x1 hw1 hm1
  have hn0 : ¬ (n : Int) = 0 := by omega
  clear hi hX hbx hbX kb hv h hin ok hxi hCA h7 hb ht hx h1
  go_enter Tryz.func17, Tryz.ntmps17
  go_upto_region 1 with fail
  (try rw [HX.out, HBX.out])
  go_upto_if 20 with (go_at_call 25; refine HW.out.mono ?_; rintro e w1 ⟨rfl, rfl⟩)
  clear x1 hw1 hm1
  go_cut [8] (fun s8 wx => ∃ kk : Nat, s8 = .int .i64 (kk : Int) ∧ Below X.heap.size X wx)
  case first =>
    obtain ⟨L, hL⟩ : ∃ L, C.way.length = L := ⟨_, rfl⟩
    rw [hL] at HW ⊢
    by_cases hl0 : 0 < L
    · have e1 : decide (0 < (L : Int)) = true := decide_eq_true (by omega)
      obtain ⟨d0, d2, d3, d4, d5⟩ := hCAx.out X (Below.refl _ _)
      obtain ⟨xk, hxk⟩ : ∃ i, x.k = i := ⟨_, rfl⟩
      rw [hxk] at d2
      have hw2 : IntKind.i64.wrap (xk : Int) = (xk : Int) := wrap_i64_in (by omega) (by have := HOK.out.k; omega)
      have hm2 := tmod_nat xk L
      obtain ⟨kk, hkk⟩ : ∃ i, xk % L = i := ⟨_, rfl⟩
      rw [hkk] at hm2
      have hL0 : ¬ (L : Int) = 0 := by omega
      have hL1 : ¬ L = 0 := by omega
      have hL2 : ((L : Int) == 0) = false := by first | (simp; done) | (simp; omega)
      have hW : Below X.heap.size X X.drew := below_drewN (Below.refl _ X) 1
      have HWD := Lib.hid (show Calls Tryz.prog 25 #[.pointer (some ⟨c, 0, none⟩)] X.drew fun e w' => e = .returned (.int .i64 (L : Int)) ∧ X.drew = w' by have := (HS.out.later hW).wait; rw [hL] at this; exact this)
      have d2x : X.drew.cell? ⟨bx, 2, none⟩ = some (.int .u8 (xk : Int)) := cell_later hW d2
      clear d0 d3 d4 d5 hxk hkk hl0
      go_upto_region 4 with fail
      go_region_held3 (fun w' => w'.cell? ⟨bx, 2, none⟩ = some (.int .u8 (xk : Int))) (first | exact d2x | exact d2) (first | (go_at_call 25; refine HWD.out.mono ?_; rintro e w2 ⟨rfl, rfl⟩))
      all_goals
        go_wp2_with fail
        go_meet
        exact ⟨kk, rfl, hW⟩
    · obtain rfl : L = 0 := by omega
      have e1 : decide (0 < ((0 : Nat) : Int)) = false := rfl
      go_wp2_with fail
      go_meet
      exact ⟨0, rfl, Below.refl _ _⟩
  case rest =>
    obtain ⟨kk, rfl, hbW⟩ := hcut
    obtain ⟨W, hWW⟩ : ∃ W, wc = W := ⟨_, rfl⟩
    rw [hWW] at hbW ⊢
    have HSW := Lib.hid (HS.out.later hbW)
    have HBW := Lib.hid (HB0.out.trans (hbW.mono HB0.out.size))
    have HVW : Hid (Vb W bx (actC x) 41) := Lib.hid ((hbW.block _ HV.out.lt).trans HV.out)
    obtain ⟨d0, d2, d3, d4, d5⟩ := hCAx.out W hbW
    obtain ⟨xd, hxd⟩ : ∃ i, x.kind = i := ⟨_, rfl⟩
    obtain ⟨xn, hxn⟩ : ∃ i, x.n = i := ⟨_, rfl⟩
    rw [hxd] at d0
    rw [hxn] at d3
    have hxn2 : xn < 256 := by rw [← hxn]; exact HOK.out.n
    have hwn : IntKind.i64.wrap (xn : Int) = (xn : Int) := wrap_i64_in (by omega) (by omega)
    have hr : xd % 15 < 15 := Nat.mod_lt _ (by decide)
    have hrt := tmod_nat xd 15
    obtain ⟨r, hrr⟩ : ∃ r, xd % 15 = r := ⟨_, rfl⟩
    rw [hrr] at hr hrt
    have HXN := Lib.hid hxn
    clear hbW hWW hCAx HX HBX HB0 HS HV HW hxd hxn hrr d2 hn0
    have hcase : r = 0 ∨ r = 1 ∨ r = 2 ∨ r = 3 ∨ r = 4 ∨ r = 5 ∨ r = 6 ∨ r = 7 ∨ r = 8 ∨ r = 9 ∨ r = 10 ∨ r = 11 ∨ r = 12 ∨ r = 13 ∨ r = 14 := by omega
    clear hr
    rcases hcase with rfl | rfl | rfl | rfl | rfl | rfl | rfl | rfl | rfl | rfl | rfl | rfl | rfl | rfl | rfl
    · have hk : ((xd : Int)).tmod 15 = 0 := hrt
      clear hrt
      obtain ⟨t, htt⟩ : ∃ t, xn % 20 = t := ⟨_, rfl⟩
      have ht20 : t < 20 := by rw [← htt]; exact Nat.mod_lt _ (by decide)
      have hmt := tmod_nat xn 20
      rw [htt] at hmt
      have hmt : ((xn : Int)).tmod 20 = (t : Int) := hmt
      clear htt d4 d5
      go_upto_region 10 with fail
      clear d3 d0
      go_loopw [9] (fun q wx => ∃ (m : Nat) (C' : cl.Clu) (g' : cl.Gh), m ≤ t + 1 ∧ q = .int .i64 m ∧ Sys B w0 c n (M + m) bs C' g' wx ∧ cl.Le C.sts g C'.sts g' ∧ Stay (bsF bs) n W wx) (fun q _ => t + 1 - (intOf q).toNat)
      case atStart => exact ⟨0, C, g, Nat.zero_le _, rfl, HSW.out, cl.Le.refl _ _, Stay.refl _ _ _⟩
      case round =>
        obtain ⟨m, C', g', hm, rfl, hs, hle, hst⟩ := hrel
        have hwm : IntKind.i64.wrap ((m : Int) + 1) = (m : Int) + 1 := wrap_i64_in (by omega) (by omega)
        have d3 := (HVW.out.stay hst (by decide) HSW.out.maps).cell 3 _ rfl
        rw [HXN.out] at d3
        have HST := Lib.hid (And.intro hle hst)
        have HSS := Lib.hid hs
        clear hs hle hst
        by_cases hlt : m ≤ t
        · have hltI : decide ((m : Int) ≤ (t : Int)) = true := decide_eq_true (by omega)
          have hltN : decide (m ≤ t) = true := decide_eq_true hlt
          have hcall := tick_next HSS.out (bd_mono HBD.out (by omega)) HT.out HIN.out
          unfold cptr at hcall
          have HCALL := Lib.hid hcall
          have HLT := Lib.hid hlt
          clear hcall hlt hm
          go_wp2_with (go_at_call 26; refine HCALL.out.mono ?_; rintro e w5 ⟨z, rfl, hN⟩; have HN := Lib.hid hN; clear hN)
          go_roundw
          case rel =>
            obtain ⟨C2, g2, s2, l2, t2⟩ := HN.out
            exact ⟨m + 1, C2, g2, by have := HLT.out; omega, by go_num, s2, HST.out.1.trans l2, HST.out.2.trans t2⟩
          case measure => have := HLT.out; simp [intOf]; omega
        · have hltI : decide ((m : Int) ≤ (t : Int)) = false := decide_eq_false (by omega)
          have hltN : decide (m ≤ t) = false := decide_eq_false hlt
          have hm20 : m ≤ 20 := by omega
          have HM := Lib.hid hm20
          clear hlt hm hm20
          go_wp2_with fail
          go_ret
          exact ⟨_, rfl, C', g', HSS.out.mono (by have := HM.out; omega), HST.out.1, (Stay.of_below HBW.out).trans HST.out.2⟩
    · have hk : ((xd : Int)).tmod 15 = 1 := hrt
      clear hrt
      obtain ⟨t, htt⟩ : ∃ t, xn % 20 = t := ⟨_, rfl⟩
      have ht20 : t < 20 := by rw [← htt]; exact Nat.mod_lt _ (by decide)
      have hmt := tmod_nat xn 20
      rw [htt] at hmt
      have hmt : ((xn : Int)).tmod 20 = (t : Int) := hmt
      clear htt d4 d5
      go_upto_region 10 with fail
      clear d3 d0
      go_loopw [9] (fun q wx => ∃ (m : Nat) (C' : cl.Clu) (g' : cl.Gh), m ≤ t + 1 ∧ q = .int .i64 m ∧ Sys B w0 c n (M + m) bs C' g' wx ∧ cl.Le C.sts g C'.sts g' ∧ Stay (bsF bs) n W wx) (fun q _ => t + 1 - (intOf q).toNat)
      case atStart => exact ⟨0, C, g, Nat.zero_le _, rfl, HSW.out, cl.Le.refl _ _, Stay.refl _ _ _⟩
      case round =>
        obtain ⟨m, C', g', hm, rfl, hs, hle, hst⟩ := hrel
        have hwm : IntKind.i64.wrap ((m : Int) + 1) = (m : Int) + 1 := wrap_i64_in (by omega) (by omega)
        have d3 := (HVW.out.stay hst (by decide) HSW.out.maps).cell 3 _ rfl
        rw [HXN.out] at d3
        have HST := Lib.hid (And.intro hle hst)
        have HSS := Lib.hid hs
        clear hs hle hst
        by_cases hlt : m ≤ t
        · have hltI : decide ((m : Int) ≤ (t : Int)) = true := decide_eq_true (by omega)
          have hltN : decide (m ≤ t) = true := decide_eq_true hlt
          have hcall := tick_next HSS.out (bd_mono HBD.out (by omega)) HT.out HIN.out
          unfold cptr at hcall
          have HCALL := Lib.hid hcall
          have HLT := Lib.hid hlt
          clear hcall hlt hm
          go_wp2_with (go_at_call 26; refine HCALL.out.mono ?_; rintro e w5 ⟨z, rfl, hN⟩; have HN := Lib.hid hN; clear hN)
          go_roundw
          case rel =>
            obtain ⟨C2, g2, s2, l2, t2⟩ := HN.out
            exact ⟨m + 1, C2, g2, by have := HLT.out; omega, by go_num, s2, HST.out.1.trans l2, HST.out.2.trans t2⟩
          case measure => have := HLT.out; simp [intOf]; omega
        · have hltI : decide ((m : Int) ≤ (t : Int)) = false := decide_eq_false (by omega)
          have hltN : decide (m ≤ t) = false := decide_eq_false hlt
          have hm20 : m ≤ 20 := by omega
          have HM := Lib.hid hm20
          clear hlt hm hm20
          go_wp2_with fail
          go_ret
          exact ⟨_, rfl, C', g', HSS.out.mono (by have := HM.out; omega), HST.out.1, (Stay.of_below HBW.out).trans HST.out.2⟩
    · have hk : ((xd : Int)).tmod 15 = 2 := hrt
      clear hrt
      obtain ⟨t, htt⟩ : ∃ t, xn % 20 = t := ⟨_, rfl⟩
      have ht20 : t < 20 := by rw [← htt]; exact Nat.mod_lt _ (by decide)
      have hmt := tmod_nat xn 20
      rw [htt] at hmt
      have hmt : ((xn : Int)).tmod 20 = (t : Int) := hmt
      clear htt d4 d5
      go_upto_region 10 with fail
      clear d3 d0
      go_loopw [9] (fun q wx => ∃ (m : Nat) (C' : cl.Clu) (g' : cl.Gh), m ≤ t + 1 ∧ q = .int .i64 m ∧ Sys B w0 c n (M + m) bs C' g' wx ∧ cl.Le C.sts g C'.sts g' ∧ Stay (bsF bs) n W wx) (fun q _ => t + 1 - (intOf q).toNat)
      case atStart => exact ⟨0, C, g, Nat.zero_le _, rfl, HSW.out, cl.Le.refl _ _, Stay.refl _ _ _⟩
      case round =>
        obtain ⟨m, C', g', hm, rfl, hs, hle, hst⟩ := hrel
        have hwm : IntKind.i64.wrap ((m : Int) + 1) = (m : Int) + 1 := wrap_i64_in (by omega) (by omega)
        have d3 := (HVW.out.stay hst (by decide) HSW.out.maps).cell 3 _ rfl
        rw [HXN.out] at d3
        have HST := Lib.hid (And.intro hle hst)
        have HSS := Lib.hid hs
        clear hs hle hst
        by_cases hlt : m ≤ t
        · have hltI : decide ((m : Int) ≤ (t : Int)) = true := decide_eq_true (by omega)
          have hltN : decide (m ≤ t) = true := decide_eq_true hlt
          have hcall := tick_next HSS.out (bd_mono HBD.out (by omega)) HT.out HIN.out
          unfold cptr at hcall
          have HCALL := Lib.hid hcall
          have HLT := Lib.hid hlt
          clear hcall hlt hm
          go_wp2_with (go_at_call 26; refine HCALL.out.mono ?_; rintro e w5 ⟨z, rfl, hN⟩; have HN := Lib.hid hN; clear hN)
          go_roundw
          case rel =>
            obtain ⟨C2, g2, s2, l2, t2⟩ := HN.out
            exact ⟨m + 1, C2, g2, by have := HLT.out; omega, by go_num, s2, HST.out.1.trans l2, HST.out.2.trans t2⟩
          case measure => have := HLT.out; simp [intOf]; omega
        · have hltI : decide ((m : Int) ≤ (t : Int)) = false := decide_eq_false (by omega)
          have hltN : decide (m ≤ t) = false := decide_eq_false hlt
          have hm20 : m ≤ 20 := by omega
          have HM := Lib.hid hm20
          clear hlt hm hm20
          go_wp2_with fail
          go_ret
          exact ⟨_, rfl, C', g', HSS.out.mono (by have := HM.out; omega), HST.out.1, (Stay.of_below HBW.out).trans HST.out.2⟩
    · have hk : ((xd : Int)).tmod 15 = 3 := hrt
      clear hrt
      clear d4 d5 d3
      have hcall := deliver_next (j := kk) HSW.out (bd_mono HBD.out (by omega)) HT.out
      unfold cptr at hcall
      have HCALL := Lib.hid hcall
      clear hcall
      go_wp2_with (go_at_call 30; refine HCALL.out.mono ?_; rintro e w5 ⟨z, rfl, hN⟩; have HN := Lib.hid hN; clear hN)
      go_ret
      exact ⟨_, rfl, (HN.out.mono (by omega)).pre (Stay.of_below HBW.out)⟩
    · have hk : ((xd : Int)).tmod 15 = 4 := hrt
      clear hrt
      clear d4 d5 d3
      have hcall := deliver_next (j := kk) HSW.out (bd_mono HBD.out (by omega)) HT.out
      unfold cptr at hcall
      have HCALL := Lib.hid hcall
      clear hcall
      go_wp2_with (go_at_call 30; refine HCALL.out.mono ?_; rintro e w5 ⟨z, rfl, hN⟩; have HN := Lib.hid hN; clear hN)
      go_ret
      exact ⟨_, rfl, (HN.out.mono (by omega)).pre (Stay.of_below HBW.out)⟩
    · have hk : ((xd : Int)).tmod 15 = 5 := hrt
      clear hrt
      clear d4 d5 d3
      have hcall := deliver_next (j := kk) HSW.out (bd_mono HBD.out (by omega)) HT.out
      unfold cptr at hcall
      have HCALL := Lib.hid hcall
      clear hcall
      go_wp2_with (go_at_call 30; refine HCALL.out.mono ?_; rintro e w5 ⟨z, rfl, hN⟩; have HN := Lib.hid hN; clear hN)
      go_ret
      exact ⟨_, rfl, (HN.out.mono (by omega)).pre (Stay.of_below HBW.out)⟩
    · have hk : ((xd : Int)).tmod 15 = 6 := hrt
      clear hrt
      clear d4 d5 d3
      have hcall := deliver_next (j := kk) HSW.out (bd_mono HBD.out (by omega)) HT.out
      unfold cptr at hcall
      have HCALL := Lib.hid hcall
      clear hcall
      go_wp2_with (go_at_call 30; refine HCALL.out.mono ?_; rintro e w5 ⟨z, rfl, hN⟩; have HN := Lib.hid hN; clear hN)
      go_ret
      exact ⟨_, rfl, (HN.out.mono (by omega)).pre (Stay.of_below HBW.out)⟩
    · have hk : ((xd : Int)).tmod 15 = 7 := hrt
      clear hrt
      clear d4 d5 d3
      have hcall := drop_next (j := kk) HSW.out
      unfold cptr at hcall
      have HCALL := Lib.hid hcall
      clear hcall
      go_wp2_with (go_at_call 29; refine HCALL.out.mono ?_; rintro e w5 ⟨z, rfl, hN⟩; have HN := Lib.hid hN; clear hN)
      go_ret
      exact ⟨_, rfl, (HN.out.mono (by omega)).pre (Stay.of_below HBW.out)⟩
    · have hk : ((xd : Int)).tmod 15 = 8 := hrt
      clear hrt
      clear d4 d5 d3
      have hcall := double_next (j := kk) HSW.out
      unfold cptr at hcall
      have HCALL := Lib.hid hcall
      clear hcall
      go_wp2_with (go_at_call 28; refine HCALL.out.mono ?_; rintro e w5 ⟨z, rfl, hN⟩; have HN := Lib.hid hN; clear hN)
      go_ret
      exact ⟨_, rfl, (HN.out.mono (by omega)).pre (Stay.of_below HBW.out)⟩
    · have hk : ((xd : Int)).tmod 15 = 9 := hrt
      clear hrt
      have hlor := cl.leadTo_or C n
      have hlead := HSW.out.lead
      obtain ⟨l0, hl0⟩ : ∃ l, cl.leadTo C n = l := ⟨_, rfl⟩
      rw [hl0] at hlor hlead
      have HLEQ := Lib.hid hl0
      have HLEAD := Lib.hid hlead
      have hpr := fun (j : Nat) (hj : j < n) (V : World) (hb : Below W.heap.size W V) => propose_next x.text HXT.out (HSW.out.later hb) (bd_mono HBD.out (by omega)) HT.out hj
      unfold cptr at hpr
      have HPR := Lib.hid hpr
      clear hlead hl0 hpr
      obtain ⟨p, hpp⟩ : ∃ t, xn % 2 = t := ⟨_, rfl⟩
      have hmp := tmod_nat xn 2
      rw [hpp] at hmp
      have hmp : ((xn : Int)).tmod 2 = (p : Int) := hmp
      have hp2 : p < 2 := by rw [← hpp]; exact Nat.mod_lt _ (by decide)
      clear hpp d4
      have hpcase : p = 0 ∨ p = 1 := by omega
      clear hp2
      rcases hpcase with rfl | rfl
      · have hmp : ((xn : Int)).tmod 2 = 0 := hmp
        rcases hlor with rfl | ⟨m, hm, rfl, _, _⟩
        · have HIN2 := HIN
          go_upto_region 27 with (first | (go_at_call 14; refine HLEAD.out.mono ?_; rintro e w4 ⟨rfl, hb4⟩; have d5 := cell_later hb4 d5) | (go_at_call 13; refine (HPR.out i HIN.out _ hb4).mono ?_; rintro e w5 ⟨v5, z, rfl, hN⟩; have HN := Lib.hid hN; clear hN))
          by_cases hz : z = 0
          · subst hz
            have HNN := Lib.hid ((HN.out.mono (by omega : M + 1 ≤ M + 20)).pre ((Stay.of_below HBW.out).trans (Stay.of_below hb4)))
            go_wp2_with fail
            go_ret
            exact ⟨_, rfl, HNN.out⟩
          · have hzb : (z == 0) = false := by simpa using hz
            have HNN := Lib.hid ((HN.out.mono (by omega : M + 1 ≤ M + 20)).pre ((Stay.of_below HBW.out).trans (Stay.of_below hb4)))
            go_wp2_with fail
            go_ret
            exact ⟨_, rfl, HNN.out⟩
        · have e1 : decide (0 ≤ (m : Int)) = true := decide_eq_true (by omega)
          have HM := Lib.hid hm
          have HLD2 : Hid (∀ V, Below W.heap.size W V → Calls Tryz.prog 14 #[.pointer (some ⟨c, 0, none⟩)] V fun e w' => e = .returned (.int .i64 (m : Int)) ∧ Below V.heap.size V w') := Lib.hid fun V hb => by
            have h := (HSW.out.later hb).lead
            have h2 := HLEQ.out
            rw [h2] at h
            exact h
          clear hm
          have hbz : Below W.heap.size W W := Below.refl _ _
          go_upto_region 27 with (first | (go_at_call 14; refine (HLD2.out _ hbz).mono ?_; rintro e w4 ⟨rfl, hb4⟩; have hbz := hbz.trans (hb4.mono hbz.size); have d5 := cell_later hb4 d5) | (go_at_call 13; refine (HPR.out m HM.out _ hbz).mono ?_; rintro e w5 ⟨v5, z, rfl, hN⟩; have HN := Lib.hid hN; clear hN))
          by_cases hz : z = 0
          · subst hz
            have HNN := Lib.hid ((HN.out.mono (by omega : M + 1 ≤ M + 20)).pre ((Stay.of_below HBW.out).trans (Stay.of_below hbz)))
            go_wp2_with fail
            go_ret
            exact ⟨_, rfl, HNN.out⟩
          · have hzb : (z == 0) = false := by simpa using hz
            have HNN := Lib.hid ((HN.out.mono (by omega : M + 1 ≤ M + 20)).pre ((Stay.of_below HBW.out).trans (Stay.of_below hbz)))
            go_wp2_with fail
            go_ret
            exact ⟨_, rfl, HNN.out⟩
      · have hmp : ((xn : Int)).tmod 2 = 1 := hmp
        have hbz : Below W.heap.size W W := Below.refl _ _
        go_upto_region 27 with (first | (go_at_call 14; refine HLEAD.out.mono ?_; rintro e w4 ⟨rfl, hb4⟩; have d5 := cell_later hb4 d5) | (go_at_call 13; refine (HPR.out i HIN.out _ hbz).mono ?_; rintro e w5 ⟨v5, z, rfl, hN⟩; have HN := Lib.hid hN; clear hN))
        by_cases hz : z = 0
        · subst hz
          have HNN := Lib.hid ((HN.out.mono (by omega : M + 1 ≤ M + 20)).pre ((Stay.of_below HBW.out).trans (Stay.of_below hbz)))
          go_wp2_with fail
          go_ret
          exact ⟨_, rfl, HNN.out⟩
        · have hzb : (z == 0) = false := by simpa using hz
          have HNN := Lib.hid ((HN.out.mono (by omega : M + 1 ≤ M + 20)).pre ((Stay.of_below HBW.out).trans (Stay.of_below hbz)))
          go_wp2_with fail
          go_ret
          exact ⟨_, rfl, HNN.out⟩
    · have hk : ((xd : Int)).tmod 15 = 10 := hrt
      clear hrt
      clear d5 d3
      have hcall := crash_next x.keep HSW.out HIN.out
      unfold cptr at hcall
      have HCALL := Lib.hid hcall
      clear hcall
      go_wp2_with (go_at_call 23; refine HCALL.out.mono ?_; rintro e w5 ⟨z, rfl, hN⟩; have HN := Lib.hid hN; clear hN)
      go_ret
      exact ⟨_, rfl, (HN.out.mono (by omega)).pre (Stay.of_below HBW.out)⟩
    · have hk : ((xd : Int)).tmod 15 = 11 := hrt
      clear hrt
      clear d4 d5 d3
      have hcall := start_next HSW.out HT.out HIN.out
      unfold cptr at hcall
      have HCALL := Lib.hid hcall
      clear hcall
      go_wp2_with (go_at_call 22; refine HCALL.out.mono ?_; rintro e w5 ⟨z, rfl, hN⟩; have HN := Lib.hid hN; clear hN)
      go_ret
      exact ⟨_, rfl, (HN.out.mono (by omega)).pre (Stay.of_below HBW.out)⟩
    · have hk : ((xd : Int)).tmod 15 = 12 := hrt
      clear hrt
      clear d4 d5 d3
      have hcall := start_next HSW.out HT.out HIN.out
      unfold cptr at hcall
      have HCALL := Lib.hid hcall
      clear hcall
      go_wp2_with (go_at_call 22; refine HCALL.out.mono ?_; rintro e w5 ⟨z, rfl, hN⟩; have HN := Lib.hid hN; clear hN)
      go_ret
      exact ⟨_, rfl, (HN.out.mono (by omega)).pre (Stay.of_below HBW.out)⟩
    · have hk : ((xd : Int)).tmod 15 = 13 := hrt
      clear hrt
      clear d5
      obtain ⟨t, htt⟩ : ∃ t, xn % 12 = t := ⟨_, rfl⟩
      have hmt := tmod_nat xn 12
      rw [htt] at hmt
      have hmt : ((xn : Int)).tmod 12 = (t : Int) := hmt
      have ht12 : t < 12 := by rw [← htt]; exact Nat.mod_lt _ (by decide)
      have hcall := fuse_next (t : Int) x.keep (by omega) HSW.out HIN.out
      clear htt ht12
      unfold cptr at hcall
      have HCALL := Lib.hid hcall
      clear hcall
      go_wp2_with (go_at_call 21; refine HCALL.out.mono ?_; rintro e w5 ⟨z, rfl, hN⟩; have HN := Lib.hid hN; clear hN)
      go_ret
      exact ⟨_, rfl, (HN.out.mono (by omega)).pre (Stay.of_below HBW.out)⟩
    · have hk : ((xd : Int)).tmod 15 = 14 := hrt
      clear hrt
      clear d4 d5 d3
      have hcall := round_next HSW.out (bd_mono HBD.out (by have := HN7.out; omega)) HT.out
      unfold cptr at hcall
      have HCALL := Lib.hid hcall
      clear hcall
      go_wp2_with (go_at_call 12; refine HCALL.out.mono ?_; rintro e w5 ⟨rfl, hN⟩; have HN := Lib.hid hN; clear hN)
      go_ret
      exact ⟨_, rfl, (HN.out.mono (by have := HN7.out; omega)).pre (Stay.of_below HBW.out)⟩
end Go.Proofs.YtmcibggjolckoaaGreatDoor
namespace Go.Proofs.YtmcibggjolckoaaGreatDoor
open Go Go.RowKit Go.Deep
set_option maxRecDepth 100000
set_option maxHeartbeats 4000000 in
theorem same_true {u v : Value} {la lb : List rl.Ent} {w : World} (hu : Ents w u la) (hv : Ents w v lb) (h1 : la.length ≤ 100000) (h2 : lb.length ≤ 100000) (he : ∀ j, j < la.length → j < lb.length → la.getD j rl.e0 = lb.getD j rl.e0) :
    Calls Tryz.prog 18 #[u, v] w fun e w' => e = .returned (.bool true) ∧ Below w.heap.size w w' := by
  obtain ⟨A, c, rfl, hac, _, hA⟩ := hu
  obtain ⟨B, d, rfl, hbd, _, hB⟩ := hv
  obtain ⟨n, hn⟩ : ∃ n, la.length = n := ⟨_, rfl⟩
  obtain ⟨m, hm⟩ : ∃ n, lb.length = n := ⟨_, rfl⟩
  rw [hn] at hA hac h1 ⊢
  rw [hm] at hB hbd h2 ⊢
  rw [hn, hm] at he
  have HA := Lib.hid hA
  have HB := Lib.hid hB
  have Hn := Lib.hid hn
  have Hm := Lib.hid hm
  have HE := Lib.hid he
  have HLIM := Lib.hid (And.intro h1 h2)
  have hacI : (n : Int) ≤ (c : Int) := by omega
  have hbdI : (m : Int) ≤ (d : Int) := by omega
  clear hA hB hn hm he h1 h2 hac hbd
  go_enter Tryz.func18, Tryz.ntmps18
  go_upto_region 2 with fail
  go_loopw [5] (fun i wr => ∃ k : Nat, k ≤ n ∧ k ≤ m ∧ i = .int .i64 k ∧ Below w.heap.size w wr) (fun i _ => n - (intOf i).toNat)
  case atStart => exact ⟨0, Nat.zero_le _, Nat.zero_le _, rfl, Below.refl _ _⟩
  case round =>
    obtain ⟨k, hk, hk2, rfl, hbw⟩ := hrel
    have HBW := Lib.hid hbw
    have hwk : IntKind.i64.wrap ((k : Int) + 1) = (k : Int) + 1 := wrap_i64_in (by omega) (by have := HLIM.out; omega)
    clear hbw
    by_cases hlt : k < n
    · have hi : decide ((k : Int) < (n : Int)) = true := decide_eq_true (by omega)
      have hiN : decide (k < n) = true := decide_eq_true hlt
      by_cases hlt2 : k < m
      · have hi2 : decide ((k : Int) < (m : Int)) = true := decide_eq_true (by omega)
        have hi2N : decide (k < m) = true := decide_eq_true hlt2
        obtain ⟨b, o, rfl, hA⟩ := HA.out (by omega)
        obtain ⟨b', o', rfl, hB⟩ := HB.out (by omega)
        obtain ⟨x0, x1⟩ := hA k (by rw [Hn.out]; exact hlt)
        obtain ⟨y0, y1⟩ := hB k (by rw [Hm.out]; exact hlt2)
        have x0' := cell_later HBW.out x0
        have x1' := cell_later HBW.out x1
        have y0' := cell_later HBW.out y0
        have y1' := cell_later HBW.out y1
        have hxy := HE.out k hlt hlt2
        rw [← hxy] at y0' y1'
        obtain ⟨x, hx⟩ : ∃ x, la.getD k rl.e0 = x := ⟨_, rfl⟩
        rw [hx] at x0' x1' y0' y1'
        have f1 : ((x.1 : Int) == (x.1 : Int)) = true := by simp
        have f2 : (x.2 == x.2) = true := by simp
        have hml : (crcm.mk x.2).toList = x.2 := by rw [ByteArray.toList_eq]; rfl
        have HLT := Lib.hid (And.intro hlt hlt2)
        have hkI : (k : Int) < (n : Int) := by omega
        have hkI2 : (k : Int) < (m : Int) := by omega
        clear hA hB x0 x1 y0 y1 hx hxy hlt hlt2 hk hk2
        go_upto_region 4 with fail
        go_quiet (fail)
        go_wp2_with fail
        go_roundw
        case rel => exact ⟨k + 1, HLT.out.1, HLT.out.2, by go_num, below_drewN HBW.out _⟩
        case measure => have := HLT.out; simp [intOf]; omega
      · have hi2 : decide ((k : Int) < (m : Int)) = false := decide_eq_false (by omega)
        have hi2N : decide (k < m) = false := decide_eq_false hlt2
        clear hlt2 hk hk2
        go_wp2_with fail
        go_ret
        exact ⟨rfl, HBW.out⟩
    · have hi : decide ((k : Int) < (n : Int)) = false := decide_eq_false (by omega)
      have hiN : decide (k < n) = false := decide_eq_false hlt
      clear hlt hk hk2
      go_wp2_with fail
      go_ret
      exact ⟨rfl, HBW.out⟩
end Go.Proofs.YtmcibggjolckoaaGreatDoor
namespace Go.Proofs.YtmcibggjolckoaaGreatDoor
open Go Go.RowKit Go.Deep
set_option maxRecDepth 100000
theorem field_state {x : rf.Node} (ok : NOk x) (ev : Value) (w : World) : (Instr.field 50 (.agg (ndC x ev).toArray) 2).run Tryz.prog w = .ok (.agg #[.int .u64 (x.term : Int), .int .i64 x.vote, ev]) w := by
  obtain ⟨h1, h2, h3, _, _⟩ := ok
  obtain ⟨a, b, c, d, e, f, g, i, j, v, x, m⟩ := x
  dsimp only at h1 h2 h3
  rcases v with _ | ⟨v0, _ | ⟨v1, _ | ⟨v2, _ | ⟨v3, _ | ⟨v4, _ | ⟨v5, _ | ⟨v6, _ | ⟨v7, v⟩⟩⟩⟩⟩⟩⟩⟩ <;> simp at h1
  rcases x with _ | ⟨x0, _ | ⟨x1, _ | ⟨x2, _ | ⟨x3, _ | ⟨x4, _ | ⟨x5, _ | ⟨x6, _ | ⟨x7, x⟩⟩⟩⟩⟩⟩⟩⟩ <;> simp at h2
  rcases m with _ | ⟨m0, _ | ⟨m1, _ | ⟨m2, _ | ⟨m3, _ | ⟨m4, _ | ⟨m5, _ | ⟨m6, _ | ⟨m7, m⟩⟩⟩⟩⟩⟩⟩⟩ <;> simp at h3
  rfl
theorem wpList_field {P : Program} {ops : Array Oper} {rest : List Oper} {o : Oper} {a : Act} {w : World} {Q : Exit → Act → World → Prop} (hg : o.guard = none) (t : TypeId) (x : Operand) (i : Nat) (ho : o.op = .field t x i) (v : Value) (hx : a.eval x = v) (u : Value) (hrun : ∀ w, (Instr.field t v i).run P w = .ok u w)
    (h : wpList P ops Q rest (a.put o.dst u) w) : wpList P ops Q (o :: rest) a w := by
  refine wpList_plain hg fun K hK => ?_
  unfold Oper.wp execOp
  simp [ho, hx, hrun]
  exact hK _ _ h
theorem act_size : (Tryz.prog.info? 41).map (·.size) = some 6 := by kernel_rfl
theorem EntsB.stay {F : Nat → Fp} {n : Nat} {w w' : World} {v : Value} {ls : List rl.Ent} (h : EntsB 0 w v ls) (hs : Stay F n w w') (hm : ∀ i, i < n → ∃ M, FMap w (F i).b M) : EntsB 0 w' v ls := by
  obtain ⟨S, hA, hS⟩ := hs.apart
  refine h.apart hA fun y hy cur e => ?_
  obtain ⟨o, ho, hc⟩ := hS y hy
  rw [ho] at e
  injection e with e
  subst e
  rcases hc with ⟨cur', t, z, e, ht⟩ | ⟨i, hi, e⟩
  · injection e with _ e _
    subst e
    exact absurd ht (by decide)
  · obtain ⟨M, es, cl, h1, _⟩ := hm i hi
    rw [← e, ho] at h1
    cases h1
/-- the node that is seen -/
def nodeOf (C : cl.Clu) (i : Nat) : rf.Node := if (C.p i).up = true then (C.p i).x else zeroN
section
variable {B : Nat} {w0 : World} {c n M : Nat} {bs : Nat → Nat} {C : cl.Clu} {g : cl.Gh} {w : World}
theorem Sys.bel (h : Sys B w0 c n M bs C g w) : Below w0.heap.size w0 w := by
  obtain ⟨R, k, F, wv, h1, h2⟩ := h.at_
  exact h1.bel
theorem Sys.crash {i : Nat} (keep : Int) (h : Sys B w0 c n M bs C g w) (hi : i < n) (hu : (C.p i).up = true) :
    Calls Tryz.prog 23 #[.pointer (some ⟨c, 0, none⟩), .int .i64 (i : Int), .int .i64 keep] w fun e w' => e = .returned (.int .i64 0) ∧ (∃ g', Sys B w0 c n M bs (cl.fallen C i (C.p i).s zeroN) g' w') ∧ Stay (bsF bs) n w w' := by
  obtain ⟨R, k, F, wv, h1, hF⟩ := h.at_
  have hi' : i < C.n := by rw [h.cn]; exact hi
  refine (crash_up keep h1 hi' hu).mono ?_
  rintro e w' ⟨rfl, hf⟩
  obtain ⟨g', hI', hle⟩ := (cl.onward_fall (C := C) (i := i) zeroN).2 g h.inv
  have h3 := hf.2
  rw [h.cn] at h3
  exact ⟨rfl, ⟨g', h.cn, cl.lim_fall h.lim _, hI', h.w200, R, k, _, wv, hf.1, upd_b hF rfl⟩, Sys.stay hF h3⟩
theorem Sys.start {i : Nat} (h : Sys B w0 c n M bs C g w) (ht : TabAt w0) (hi : i < n) (hd : (C.p i).up = false) :
    Calls Tryz.prog 22 #[.pointer (some ⟨c, 0, none⟩), .int .i64 (i : Int)] w fun e w' => e = .returned (.int .i64 0) ∧ (∃ g', Sys B w0 c n M bs (cl.started C i) g' w') ∧ Stay (bsF bs) n w w' := by
  obtain ⟨R, k, F, wv, h1, hF⟩ := h.at_
  have hi' : i < C.n := by rw [h.cn]; exact hi
  refine (start_yes h1 hi' hd ht).mono ?_
  rintro e w' ⟨rfl, F', h2, hfp, _, h3⟩
  obtain ⟨g', hI', hle⟩ := (cl.onward_start (C := C) (i := i)).2 g h.inv
  rw [h.cn] at h3
  refine ⟨rfl, ⟨g', h.cn, cl.lim_start h.lim hi', hI', h.w200, R, k, F', wv, h2, fun j hj => ?_⟩, Sys.stay hF h3⟩
  by_cases hji : j = i
  · subst hji; rw [hfp.b]; exact hF _ hj
  · rw [hfp.other _ hji]; exact hF _ hj
theorem nodeOf_ok {i : Nat} (h : Sys B w0 c n M bs C g w) (hi : i < n) : NOk (nodeOf C i) := by
  obtain ⟨R, k, F, wv, h1, hF⟩ := h.at_
  unfold nodeOf
  split
  · exact (h1.peers i (by rw [h.cn]; exact hi)).ok
  · exact zero_ok
theorem Sys.node {i : Nat} (h : Sys B w0 c n M bs C g w) (hi : i < n) :
    Calls Tryz.prog 19 #[.pointer (some ⟨c, 0, none⟩), .int .i64 (i : Int)] w fun e w' => ∃ A d, e = .returned (ndV (nodeOf C i) (.slice A (nodeOf C i).log.length d)) ∧ EntsB 0 w (.slice A (nodeOf C i).log.length d) (nodeOf C i).log ∧ Below w.heap.size w w' := by
  obtain ⟨R, k, F, wv, h1, hF⟩ := h.at_
  have hi' : i < C.n := by rw [h.cn]; exact hi
  refine (node_any h1 hi').mono ?_
  rintro e w' ⟨rfl, hb⟩
  unfold seen nodeOf
  cases hu : (C.p i).up with
  | true =>
    rw [if_pos rfl, if_pos rfl]
    exact ⟨(F i).A, (F i).c, rfl, (h1.peers i hi').ents, hb⟩
  | false =>
    rw [if_neg (by decide), if_neg (by decide)]
    exact ⟨none, 0, rfl, EntsB.nil 0 _, hb⟩
theorem Sys.isup {i : Nat} (h : Sys B w0 c n M bs C g w) (hi : i < n) : Calls Tryz.prog 20 #[.pointer (some ⟨c, 0, none⟩), .int .i64 (i : Int)] w fun e w' => e = .returned (.bool (C.p i).up) ∧ Below w.heap.size w w' := by
  obtain ⟨R, k, F, wv, h1, hF⟩ := h.at_
  exact up_yes h1 (by rw [h.cn]; exact hi)
theorem Sys.com {i : Nat} (h : Sys B w0 c n M bs C g w) (hb : Bd B M) (hi : i < n) :
    Calls Tryz.prog 15 #[.pointer (some ⟨c, 0, none⟩), .int .i64 (i : Int)] w fun e w' => ∃ D e', e = .returned (.slice D (shownLog C i).length e') ∧ w'.ownsRow w.heap.size 35 2 (.slice D (shownLog C i).length e') (shownLog C i).length (entCells (shownLog C i)) ∧ Below w.heap.size w w' := by
  obtain ⟨R, k, F, wv, h1, hF⟩ := h.at_
  have hi' : i < C.n := by rw [h.cn]; exact hi
  exact committed_any h1 hi' (fun hu => (cl.done_of h.inv hi' hu).1) (fun hu => by have := (h.lim.up i hi' hu).len; have := hb.1; omega)
end
theorem new_sys (n : Nat) (w : World) (h1 : 1 ≤ n) (h7 : n ≤ 7) (ht : TabAt w) :
    Calls Tryz.prog 11 #[.int .i64 (n : Int), .int .i64 10000000] w fun e w' => ∃ c bs, e = .returned (.tuple #[.pointer (some ⟨c, 0, none⟩), .int .i64 0]) ∧ Sys 5000000 w c n 0 bs (cl.fresh n) cl.gh0 w' := by
  refine (new_any_clu (B := 5000000) n 10000000 w h1 h7 (by decide) (by decide) ht).mono ?_
  rintro e w' ⟨c, R, k, F, rfl, h2, h3⟩
  exact ⟨c, fun i => (F i).b, rfl, rfl, ⟨fun i _ => ⟨Nat.zero_le _, Nat.zero_le _, fun e he => (by cases he), by show -1 ≤ (-1 : Int); decide, by show (-1 : Int) ≤ 6; decide⟩, fun i _ _ => ⟨Nat.zero_le _, fun h => absurd (show (0 : Int) = 1 from h) (by decide), Nat.zero_le _, Int.le_refl _, (by decide : (0 : Int) ≤ 100), fun e he => (by cases he), by show -1 ≤ (-1 : Int); decide, by show (-1 : Int) ≤ 6; decide⟩, fun m hm => (by cases hm)⟩, cl.inv_fresh n, Nat.zero_le _, R, k, F, _, h2, fun _ _ => rfl⟩
theorem bounded_yes {l : List cl.Act} (h : boundedB l = true) : l.length ≤ 150 ∧ ∀ k, k < l.length → (l.getD k default).text.length ≤ 100 := by
  unfold boundedB at h
  rw [Bool.and_eq_true] at h
  refine ⟨of_decide_eq_true h.2, fun k hk => ?_⟩
  rw [List.getD_eq_getElem?_getD, List.getElem?_eq_getElem hk]
  exact of_decide_eq_true (List.all_eq_true.1 h.1 _ (List.getElem_mem hk))
theorem bd_3000 {M : Nat} (h : M ≤ 3100) : Bd 5000000 M := ⟨by omega, by omega⟩
end Go.Proofs.YtmcibggjolckoaaGreatDoor
