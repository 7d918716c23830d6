/- WalActs: what Reset does to both. -/
import Derived.Test.YtdnoeahhidmkbaaDoorWaSkel
namespace Go.Proofs.YtdnoeahhidmkbaaDoor
open Go Go.RowKit
set_option maxRecDepth 100000

set_option maxHeartbeats 32000000 in
theorem part_reset : skel.2.1 := by
  intro cp la w c N C Q1 HT zz1 w1 w2 p q W2 rb hrb w3 A3 c3 zz2 w6 A6 n6 cc6 B6 Au6 cu6 W6 xb hxb X7 w8 q8 zz3 zz4 wr u4 u14 u15 u16 u17 u18 u19 u20 u63
     u64 u65 u66 u67 u68 u69 u70 u71 u72 u73 u74 u75 u76 u77 u78 u79 u80 u81 u82 u83 u84 u85 u86 u87 u88 u89 u90 u91 u92 u93 u94 u95 u96 u97 u98 u99 u100
     u101 u102 u103 u104 u105 u106 u107 u108 u109 u110 u111 u112 u113 u114 u115 u116 u117 u118 u119 u120 u121 u122 u123 u124 u125 u126 u127 u128 u129
     u130 u131 u132 u133 u134 u135 u136 u137 u138 u139 u140 u141 u142 u143 u144 u145 u146 u147 u148 u149 u150 u151 u152 u153 u154 u155 u156 u157 u158
     u159 u160 u161 u162 u163 u164 u165 u166 u167 u168 u169 u170 u171 u172 u173 u174 u175 u176 u177 u178 u179 u180 u181 u182 u183 u184 u185 u186 u187
     u188 u189 u190 u191 u192 u193 u194 u195 u196 u197 u198 u199 u200 u201 u202 u203 u204 u205 u206 u207 u208 u209 u210 u211 u212 u213 u214 u215 u216
     u217 u218 u219 u220 u221 u222 u223 u224 u225 u226 u227 u228 u229 u230 u231 u232 u233 u234 HC2 HN60 k g ee ff hlt ab ao HA kind xn xkeep ts A4 c4 K3
     HTOP c0 D0 o0 lf0 kp0 mn0 of0 HWA HCP HMY HK HKN HFT zz5 zz6 zz7 w4 HW4 k0 k1 k2 k3 TX4 zz8 zz9 zz10 zz11 zz12 zz13 HAB h
  subst h
  have hc := ld_reset _ ts HW4.out.ld HW4.out.lg HW4.out.gb TX4.out.1 (by have := HFT.out.1; omega) (by have := HFT.out.2; omega) (by show LOGA.length ≤ 200; unfold LOGA; simp) HT.out
  have hmb := many_reset ⟨c0, D0, o0, lf0, kp0⟩ ⟨LOGA, mn0, of0⟩ ts
  have hfw := wl.few_reset HW4.out.few2 ⟨LOGA, mn0, of0⟩ ts
  have hcp5 := wl.cap_reset ⟨c0, D0, o0, lf0, kp0⟩ ⟨LOGA, mn0, of0⟩ ts
  obtain ⟨⟨⟨c5, D5, o5, lf5, kp5⟩, ⟨nm5, mn5, of5⟩, e5⟩, hap⟩ : ∃ x, wl.reset ⟨c0, D0, o0, lf0, kp0⟩ ⟨LOGA, mn0, of0⟩ ts = x := ⟨_, rfl⟩
  rw [hap] at hc hmb hfw hcp5
  have HMB := Lib.hid hmb
  have HFW := Lib.hid hfw
  have HC5 : Hid (c5 ≤ 2000) := Lib.hid (by have h1 : c5 = c0 := hcp5; have := HCP.out; omega)
  have HAP := Lib.hid hap
  clear hmb hfw hcp5 hap
  go_wp2_with fail
  refine hc.mono ?_
  rintro e w5 ⟨rfl, hd5, hl5, hA5⟩
  have HW5 := Lib.hid (HW4.out.wal hA5 hd5 hl5)
  clear hd5 hl5 hA5 hc k0 k1 k2 k3
  obtain ⟨k0, k1, k2, k3, _⟩ := K3.out w5 HW5.out.ld.bel
  obtain ⟨Ar, nr, ccr, hvr, hrr⟩ := HW5.out.rd
  have HRR := Lib.hid hrr
  have HVR := Lib.hid hvr
  have HDOC : Hid (∀ w', Below w5.heap.size w5 w' → Calls Tryd.prog 22 #[.agg #[.int .i64 (c0 : Int), .slice Ar nr ccr, .bool o0, .int .i64 (lf0 : Int), .int .i64 kp0], .agg #[.string (crcm.mk LOGA), .int .i64 (mn0 : Int), .bool of0], .slice A4 ts.length c4] w' (fun e w2 => ∃ A n cc, e = .returned (.tuple #[.agg #[.int .i64 (c5 : Int), .slice A n cc, .bool o5, .int .i64 (lf5 : Int), .int .i64 kp5], .agg #[.string (crcm.mk nm5), .int .i64 (mn5 : Int), .bool of5], .int .i64 (e5 : Int)]) ∧ Rd w2 (.agg #[.int .i64 (c5 : Int), .slice A n cc, .bool o5, .int .i64 (lf5 : Int), .int .i64 kp5]) ⟨c5, D5, o5, lf5, kp5⟩ ∧ Below w'.heap.size w' w2)) := Lib.hid fun w' hb => by
    refine (rd_reset ⟨LOGA, mn0, of0⟩ ts (HRR.out.later hb) HW5.out.ok2 HW5.out.few2 (K3.out w' (HW5.out.ld.bel.trans (hb.mono HW5.out.ld.bel.size))).2.2.2.2.1 (by show LOGA.length ≤ 200; unfold LOGA; simp) (by have := HMY.out; have := HK.out; show mn0 ≤ _; omega) (by have := HFT.out.2; omega) (by have := HFT.out.1; omega)).mono ?_
    rintro e w2 ⟨v2, rfl, hR, hb2⟩
    rw [HAP.out] at hR ⊢
    obtain ⟨A, n, cc, rfl⟩ := hR.form
    exact ⟨A, n, cc, rfl, hR, hb2⟩
  clear hrr hvr
  obtain ⟨p0, p1, p2, p3, p4, z0, z1, z2, z3, z4⟩ := HVR.out.five
  obtain ⟨g0, g1, g2, t0, t1, t2⟩ := HW5.out.xl.three
  have e1 : ¬ rb = xb := HW5.out.rbx
  have e2 : ¬ xb = rb := fun e => e1 e.symm
  go_wp2_with fail
  have hW : Below w5.heap.size w5 w5.drew := below_drewN (Below.refl _ w5) 1
  clear k0 k1 k2 z0 z1 z2 z3 z4 t0 t1 t2
  go_region_with (first | (go_at_call 22; refine (HDOC.out _ hW).mono ?_; rintro e w6 ⟨A6, n6, cc6, rfl, hR6, b6⟩; have hW := hW.trans (b6.mono hW.size); obtain ⟨p0, p1, p2, p3, p4, z0, z1, z2, z3, z4⟩ := (HVR.out.below hW).five; obtain ⟨g0, g1, g2, t0, t1, t2⟩ := (HW5.out.xl.below hW).three))
  all_goals
    have HFI := Lib.hid ((HW5.out.disk hW hR6 HW5.out.ld.ok HFW.out).log nm5 mn5 of5)
    go_wp2_with fail
    go_meet
    exact ⟨g, _, _, e5, rfl, rfl, rfl, HMB.out.2, (by have h1 : mn5 ≤ mn0 + ts.length := HMB.out.1; have := HMY.out; have := HFT.out.2; show mn5 ≤ _; omega), HC5.out, HFI.out⟩
end Go.Proofs.YtdnoeahhidmkbaaDoor
