/- The document's disk and log: RdWrite, RdJoin, RdLogBase, one behind the other. -/
import Derived.Test.YtdnoeahhidmkbaaDoorRdC
namespace Go.Proofs.YtdnoeahhidmkbaaDoor
section
open Go Go.RowKit
set_option maxRecDepth 100000

namespace wl
theorem write_stop0 {d d1 : vd.Disk} {n s : List UInt8} {e : Nat} (h : vd.delete d (n ++ [43]) = (d1, e)) (h0 : ¬ e = 0) (h3 : ¬ e = 3) : write d n s = (d1, e) := by
  have h1 : del d (n ++ [43]) = (d1, e) := by unfold del; rw [h]; show (d1, if e = 3 then 0 else e) = _; rw [if_neg h3]
  unfold write writeOps run
  simp [h1, h0]
theorem write_go {d d1 : vd.Disk} {n s : List UInt8} {e : Nat} (h : vd.delete d (n ++ [43]) = (d1, e)) (h0 : e = 0 ∨ e = 3) : write d n s = run [fun d => vd.create d (n ++ [43]), fun d => vd.append d (n ++ [43]) s, fun d => vd.sync d (n ++ [43]), fun d => vd.rename d (n ++ [43]) n] d1 := by
  have h1 : del d (n ++ [43]) = (d1, 0) := by unfold del; rw [h]; show (d1, if e = 3 then 0 else e) = _; rcases h0 with h0 | h0 <;> simp [h0]
  unfold write writeOps
  conv => lhs; unfold run
  simp [h1]
theorem run_go {f : Op1} {r : List Op1} {d d1 : vd.Disk} (h : f d = (d1, 0)) : run (f :: r) d = run r d1 := by
  conv => lhs; unfold run
  simp [h]
theorem run_halt {f : Op1} {r : List Op1} {d d1 : vd.Disk} {e : Nat} (h : f d = (d1, e)) (h0 : ¬ e = 0) : run (f :: r) d = (d1, e) := by
  conv => lhs; unfold run
  simp [h, h0]
theorem run_one {f : Op1} {d d1 : vd.Disk} {e : Nat} (h : f d = (d1, e)) : run [f] d = (d1, e) := by
  by_cases h0 : e = 0
  · subst h0; rw [run_go h]; rfl
  · exact run_halt h h0
theorem run_nil (d : vd.Disk) : run [] d = (d, 0) := rfl
end wl
set_option maxHeartbeats 16000000 in
theorem rd_write {w : World} {v : Value} {d : vd.Disk} (nm s : List UInt8) (h : Rd w v d) (ho : vd.Ok d) (hf : vd.Few d) (hm : nm.length ≤ 200) (hs : s.length ≤ 1000000000) :
    Calls Tryd.prog 47 #[v, .string (crcm.mk nm), .string (crcm.mk s)] w (RdTo w (wl.write d nm s)) := by
  obtain ⟨A0, n0, cc0, rfl⟩ := h.form
  obtain ⟨c0, D0, o0, l0, q0⟩ := d
  obtain ⟨W, hW⟩ : ∃ W, w.alloc (.cells #[.int .i64 (c0 : Int), .slice A0 n0 cc0, .bool o0, .int .i64 (l0 : Int), .int .i64 q0] 45) = W := ⟨_, rfl⟩
  obtain ⟨X0, hW2⟩ : ∃ W2, W.alloc (.cells #[.int .i64 0, .slice none 0 0, .bool false, .int .i64 0, .int .i64 0] 45) = W2 := ⟨_, rfl⟩
  have hdb : DB w X0 w.heap.size W.heap.size (rdC c0 (.slice A0 n0 cc0) o0 l0 q0) := by rw [← hW2, ← hW]; exact DB.new w _
  obtain ⟨b, hb⟩ : ∃ x, w.heap.size = x := ⟨_, rfl⟩
  obtain ⟨r, hr⟩ : ∃ x, W.heap.size = x := ⟨_, rfl⟩
  rw [hb, hr] at hdb
  have hbr : ¬ b = r := by have := hdb.hr; omega
  have hrb : ¬ r = b := by omega
  have HR0 : Hid (Rd X0 (.agg #[.int .i64 (c0 : Int), .slice A0 n0 cc0, .bool o0, .int .i64 (l0 : Int), .int .i64 q0]) ⟨c0, D0, o0, l0, q0⟩) := Lib.hid (h.later hdb.below)
  have HO0 : Hid (vd.Ok ⟨c0, D0, o0, l0, q0⟩) := Lib.hid ho
  have HF0 : Hid (vd.Few ⟨c0, D0, o0, l0, q0⟩) := Lib.hid hf
  have HD0 := Lib.hid hdb
  clear hdb h ho hf
  obtain ⟨p0, p1, p2, p3, p4, z0, z1, z2, z3, z4⟩ := HD0.out.one.five
  obtain ⟨y0, y1, y2, y3, y4, s0, s1, s2, s3, s4⟩ := HD0.out.res.five
  obtain ⟨o, hoe⟩ : ∃ o, nm ++ [43] = o := ⟨_, rfl⟩
  have hcat : crcm.mk nm ++ ⟨#[43]⟩ = crcm.mk o := by rw [← hoe, ← crcm.mk_append]; rfl
  have HOL : Hid (o.length ≤ maxLen) := Lib.hid (by rw [← hoe, List.length_append]; unfold maxLen; simp; omega)
  have HNL : Hid (nm.length ≤ maxLen) := Lib.hid (by unfold maxLen; omega)
  have HSL := Lib.hid hs
  have hz1 : (crcm.mk nm).size = nm.length := crcm.mk_size _
  have hz2 : ByteArray.size ⟨#[43]⟩ = 1 := rfl
  have hno : ¬ 9223372036854775807 < nm.length + 1 := by omega
  have HOE := Lib.hid hoe
  clear hs hoe
  go_enter Tryd.func47, Tryd.ntmps47
  have hc : Calls Tryd.prog 76 #[.agg #[.int .i64 (c0 : Int), .slice A0 n0 cc0, .bool o0, .int .i64 (l0 : Int), .int .i64 q0], .string (crcm.mk o)] X0 (RdTo X0 (vd.delete ⟨c0, D0, o0, l0, q0⟩ o)) := use_delete HR0.out HO0.out HF0.out o HOL.out
  have hok := vd.ok_delete HO0.out o
  have hfw := vd.few_delete HF0.out o
  go_wp2_with fail
  refine hc.mono ?_
  rintro e w1 ⟨v1, rfl, hR, b1⟩
  clear p0 p1 p2 p3 p4 z0 z1 z2 z3 z4 y0 y1 y2 y3 y4 s0 s1 s2 s3 s4 hc
  obtain ⟨e1, he1⟩ : ∃ x, (vd.delete ⟨c0, D0, o0, l0, q0⟩ o).2 = x := ⟨_, rfl⟩
  obtain ⟨⟨c1, D1, o1, l1, q1⟩, hd⟩ : ∃ x, (vd.delete ⟨c0, D0, o0, l0, q0⟩ o).1 = x := ⟨_, rfl⟩
  have HEQ1 : Hid (vd.delete ⟨c0, D0, o0, l0, q0⟩ o = (⟨c1, D1, o1, l1, q1⟩, e1)) := Lib.hid (Prod.ext hd he1)
  rw [hd] at hR hok hfw
  rw [he1]
  obtain ⟨A1, n1, cc1, rfl⟩ := hR.form
  have hdb := HD0.out.later b1
  obtain ⟨p0, p1, p2, p3, p4, z0, z1, z2, z3, z4⟩ := hdb.one.five; obtain ⟨y0, y1, y2, y3, y4, s0, s1, s2, s3, s4⟩ := hdb.res.five
  have hR2 := hR.put hdb.one c1 (.slice A1 n1 cc1) o1 l1 q1
  have hdb2 := hdb.store c1 (.slice A1 n1 cc1) o1 l1 q1
  obtain ⟨X1, hX⟩ : ∃ X, put5 w1 b c1 (.slice A1 n1 cc1) o1 l1 q1 = X := ⟨_, rfl⟩
  rw [hX] at hR2 hdb2
  have HX := Lib.hid hX
  have HR1 : Hid (Rd X1 (.agg #[.int .i64 (c1 : Int), .slice A1 n1 cc1, .bool o1, .int .i64 (l1 : Int), .int .i64 q1]) ⟨c1, D1, o1, l1, q1⟩) := Lib.hid hR2
  have HD1 := Lib.hid hdb2
  have HO1 := Lib.hid hok
  have HF1 := Lib.hid hfw
  clear b1 he1 hd hR hdb hR2 hdb2 hok hfw hX
  go_upto_region 3 with fail
  have hX := HX.out
  unfold put5 at hX
  rw [hX]
  clear hX p0 p1 p2 p3 p4 z0 z1 z2 z3 z4 y0 y1 y2 y3 y4 s0 s1 s2 s3 s4
  obtain ⟨p0, p1, p2, p3, p4, z0, z1, z2, z3, z4⟩ := HD1.out.one.five
  obtain ⟨y0, y1, y2, y3, y4, s0, s1, s2, s3, s4⟩ := HD1.out.res.five
  by_cases h03 : e1 = 0 ∨ e1 = 3
  · have HG1 := Lib.hid (wl.write_go (d := ⟨c0, D0, o0, l0, q0⟩) (d1 := ⟨c1, D1, o1, l1, q1⟩) (n := nm) (s := s) (e := e1) (by rw [HOE.out]; exact HEQ1.out) h03)
    rw [HOE.out] at HG1
    rcases h03 with rfl | rfl
    all_goals
      have hc : Calls Tryd.prog 77 #[.agg #[.int .i64 (c1 : Int), .slice A1 n1 cc1, .bool o1, .int .i64 (l1 : Int), .int .i64 q1], .string (crcm.mk o)] X1 (RdTo X1 (vd.create ⟨c1, D1, o1, l1, q1⟩ o)) := use_create HR1.out HO1.out HF1.out o HOL.out
      have hok := vd.ok_create HO1.out o
      have hfw := vd.few_create HF1.out o
      go_wp2_with fail
      refine hc.mono ?_
      rintro e w2 ⟨v2, rfl, hR, b2⟩
      clear p0 p1 p2 p3 p4 z0 z1 z2 z3 z4 y0 y1 y2 y3 y4 s0 s1 s2 s3 s4 hc
      obtain ⟨e2, he2⟩ : ∃ x, (vd.create ⟨c1, D1, o1, l1, q1⟩ o).2 = x := ⟨_, rfl⟩
      obtain ⟨⟨c2, D2, o2, l2, q2⟩, hd⟩ : ∃ x, (vd.create ⟨c1, D1, o1, l1, q1⟩ o).1 = x := ⟨_, rfl⟩
      have HEQ2 : Hid (vd.create ⟨c1, D1, o1, l1, q1⟩ o = (⟨c2, D2, o2, l2, q2⟩, e2)) := Lib.hid (Prod.ext hd he2)
      rw [hd] at hR hok hfw
      rw [he2]
      obtain ⟨A2, n2, cc2, rfl⟩ := hR.form
      have hdb := HD1.out.later b2
      obtain ⟨p0, p1, p2, p3, p4, z0, z1, z2, z3, z4⟩ := hdb.one.five; obtain ⟨y0, y1, y2, y3, y4, s0, s1, s2, s3, s4⟩ := hdb.res.five
      have hR2 := hR.put hdb.one c2 (.slice A2 n2 cc2) o2 l2 q2
      have hdb2 := hdb.store c2 (.slice A2 n2 cc2) o2 l2 q2
      obtain ⟨X2, hX⟩ : ∃ X, put5 w2 b c2 (.slice A2 n2 cc2) o2 l2 q2 = X := ⟨_, rfl⟩
      rw [hX] at hR2 hdb2
      have HX := Lib.hid hX
      have HR2 : Hid (Rd X2 (.agg #[.int .i64 (c2 : Int), .slice A2 n2 cc2, .bool o2, .int .i64 (l2 : Int), .int .i64 q2]) ⟨c2, D2, o2, l2, q2⟩) := Lib.hid hR2
      have HD2 := Lib.hid hdb2
      have HO2 := Lib.hid hok
      have HF2 := Lib.hid hfw
      clear b2 he2 hd hR hdb hR2 hdb2 hok hfw hX
      go_upto_region 6 with fail
      have hX := HX.out
      unfold put5 at hX
      rw [hX]
      clear hX p0 p1 p2 p3 p4 z0 z1 z2 z3 z4 y0 y1 y2 y3 y4 s0 s1 s2 s3 s4
      obtain ⟨p0, p1, p2, p3, p4, z0, z1, z2, z3, z4⟩ := HD2.out.one.five
      obtain ⟨y0, y1, y2, y3, y4, s0, s1, s2, s3, s4⟩ := HD2.out.res.five
      by_cases h2 : e2 = 0
      · subst h2
        have HG2 := Lib.hid (HG1.out.trans (wl.run_go HEQ2.out))
        have hc : Calls Tryd.prog 50 #[.agg #[.int .i64 (c2 : Int), .slice A2 n2 cc2, .bool o2, .int .i64 (l2 : Int), .int .i64 q2], .string (crcm.mk o), .string (crcm.mk s)] X2 (RdTo X2 (vd.append ⟨c2, D2, o2, l2, q2⟩ o s)) := use_append HR2.out HO2.out HF2.out o HOL.out s HSL.out
        have hok := vd.ok_append HO2.out o s
        have hfw := vd.few_append HF2.out o s
        go_wp2_with fail
        refine hc.mono ?_
        rintro e w3 ⟨v3, rfl, hR, b3⟩
        clear p0 p1 p2 p3 p4 z0 z1 z2 z3 z4 y0 y1 y2 y3 y4 s0 s1 s2 s3 s4 hc
        obtain ⟨e3, he3⟩ : ∃ x, (vd.append ⟨c2, D2, o2, l2, q2⟩ o s).2 = x := ⟨_, rfl⟩
        obtain ⟨⟨c3, D3, o3, l3, q3⟩, hd⟩ : ∃ x, (vd.append ⟨c2, D2, o2, l2, q2⟩ o s).1 = x := ⟨_, rfl⟩
        have HEQ3 : Hid (vd.append ⟨c2, D2, o2, l2, q2⟩ o s = (⟨c3, D3, o3, l3, q3⟩, e3)) := Lib.hid (Prod.ext hd he3)
        rw [hd] at hR hok hfw
        rw [he3]
        obtain ⟨A3, n3, cc3, rfl⟩ := hR.form
        have hdb := HD2.out.later b3
        obtain ⟨p0, p1, p2, p3, p4, z0, z1, z2, z3, z4⟩ := hdb.one.five; obtain ⟨y0, y1, y2, y3, y4, s0, s1, s2, s3, s4⟩ := hdb.res.five
        have hR2 := hR.put hdb.one c3 (.slice A3 n3 cc3) o3 l3 q3
        have hdb2 := hdb.store c3 (.slice A3 n3 cc3) o3 l3 q3
        obtain ⟨X3, hX⟩ : ∃ X, put5 w3 b c3 (.slice A3 n3 cc3) o3 l3 q3 = X := ⟨_, rfl⟩
        rw [hX] at hR2 hdb2
        have HX := Lib.hid hX
        have HR3 : Hid (Rd X3 (.agg #[.int .i64 (c3 : Int), .slice A3 n3 cc3, .bool o3, .int .i64 (l3 : Int), .int .i64 q3]) ⟨c3, D3, o3, l3, q3⟩) := Lib.hid hR2
        have HD3 := Lib.hid hdb2
        have HO3 := Lib.hid hok
        have HF3 := Lib.hid hfw
        clear b3 he3 hd hR hdb hR2 hdb2 hok hfw hX
        go_upto_region 8 with fail
        have hX := HX.out
        unfold put5 at hX
        rw [hX]
        clear hX p0 p1 p2 p3 p4 z0 z1 z2 z3 z4 y0 y1 y2 y3 y4 s0 s1 s2 s3 s4
        obtain ⟨p0, p1, p2, p3, p4, z0, z1, z2, z3, z4⟩ := HD3.out.one.five
        obtain ⟨y0, y1, y2, y3, y4, s0, s1, s2, s3, s4⟩ := HD3.out.res.five
        by_cases h3 : e3 = 0
        · subst h3
          have HG3 := Lib.hid (HG2.out.trans (wl.run_go HEQ3.out))
          have hc : Calls Tryd.prog 48 #[.agg #[.int .i64 (c3 : Int), .slice A3 n3 cc3, .bool o3, .int .i64 (l3 : Int), .int .i64 q3], .string (crcm.mk o)] X3 (RdTo X3 (vd.sync ⟨c3, D3, o3, l3, q3⟩ o)) := use_sync HR3.out HO3.out HF3.out o HOL.out
          have hok := vd.ok_sync HO3.out o
          have hfw := vd.few_sync HF3.out o
          go_wp2_with fail
          refine hc.mono ?_
          rintro e w4 ⟨v4, rfl, hR, b4⟩
          clear p0 p1 p2 p3 p4 z0 z1 z2 z3 z4 y0 y1 y2 y3 y4 s0 s1 s2 s3 s4 hc
          obtain ⟨e4, he4⟩ : ∃ x, (vd.sync ⟨c3, D3, o3, l3, q3⟩ o).2 = x := ⟨_, rfl⟩
          obtain ⟨⟨c4, D4, o4, l4, q4⟩, hd⟩ : ∃ x, (vd.sync ⟨c3, D3, o3, l3, q3⟩ o).1 = x := ⟨_, rfl⟩
          have HEQ4 : Hid (vd.sync ⟨c3, D3, o3, l3, q3⟩ o = (⟨c4, D4, o4, l4, q4⟩, e4)) := Lib.hid (Prod.ext hd he4)
          rw [hd] at hR hok hfw
          rw [he4]
          obtain ⟨A4, n4, cc4, rfl⟩ := hR.form
          have hdb := HD3.out.later b4
          obtain ⟨p0, p1, p2, p3, p4, z0, z1, z2, z3, z4⟩ := hdb.one.five; obtain ⟨y0, y1, y2, y3, y4, s0, s1, s2, s3, s4⟩ := hdb.res.five
          have hR2 := hR.put hdb.one c4 (.slice A4 n4 cc4) o4 l4 q4
          have hdb2 := hdb.store c4 (.slice A4 n4 cc4) o4 l4 q4
          obtain ⟨X4, hX⟩ : ∃ X, put5 w4 b c4 (.slice A4 n4 cc4) o4 l4 q4 = X := ⟨_, rfl⟩
          rw [hX] at hR2 hdb2
          have HX := Lib.hid hX
          have HR4 : Hid (Rd X4 (.agg #[.int .i64 (c4 : Int), .slice A4 n4 cc4, .bool o4, .int .i64 (l4 : Int), .int .i64 q4]) ⟨c4, D4, o4, l4, q4⟩) := Lib.hid hR2
          have HD4 := Lib.hid hdb2
          have HO4 := Lib.hid hok
          have HF4 := Lib.hid hfw
          clear b4 he4 hd hR hdb hR2 hdb2 hok hfw hX
          go_upto_region 10 with fail
          have hX := HX.out
          unfold put5 at hX
          rw [hX]
          clear hX p0 p1 p2 p3 p4 z0 z1 z2 z3 z4 y0 y1 y2 y3 y4 s0 s1 s2 s3 s4
          obtain ⟨p0, p1, p2, p3, p4, z0, z1, z2, z3, z4⟩ := HD4.out.one.five
          obtain ⟨y0, y1, y2, y3, y4, s0, s1, s2, s3, s4⟩ := HD4.out.res.five
          by_cases h4 : e4 = 0
          · subst h4
            have HG4 := Lib.hid (HG3.out.trans (wl.run_go HEQ4.out))
            have hc : Calls Tryd.prog 78 #[.agg #[.int .i64 (c4 : Int), .slice A4 n4 cc4, .bool o4, .int .i64 (l4 : Int), .int .i64 q4], .string (crcm.mk o), .string (crcm.mk nm)] X4 (RdTo X4 (vd.rename ⟨c4, D4, o4, l4, q4⟩ o nm)) := use_rename HR4.out HO4.out HF4.out o nm HOL.out HNL.out
            have hok := vd.ok_rename HO4.out o nm
            have hfw := vd.few_rename HF4.out o nm
            go_wp2_with fail
            refine hc.mono ?_
            rintro e w5 ⟨v5, rfl, hR, b5⟩
            clear p0 p1 p2 p3 p4 z0 z1 z2 z3 z4 y0 y1 y2 y3 y4 s0 s1 s2 s3 s4 hc
            obtain ⟨e5, he5⟩ : ∃ x, (vd.rename ⟨c4, D4, o4, l4, q4⟩ o nm).2 = x := ⟨_, rfl⟩
            obtain ⟨⟨c5, D5, o5, l5, q5⟩, hd⟩ : ∃ x, (vd.rename ⟨c4, D4, o4, l4, q4⟩ o nm).1 = x := ⟨_, rfl⟩
            have HEQ5 : Hid (vd.rename ⟨c4, D4, o4, l4, q4⟩ o nm = (⟨c5, D5, o5, l5, q5⟩, e5)) := Lib.hid (Prod.ext hd he5)
            rw [hd] at hR hok hfw
            rw [he5]
            obtain ⟨A5, n5, cc5, rfl⟩ := hR.form
            have hdb := HD4.out.later b5
            obtain ⟨p0, p1, p2, p3, p4, z0, z1, z2, z3, z4⟩ := hdb.one.five; obtain ⟨y0, y1, y2, y3, y4, s0, s1, s2, s3, s4⟩ := hdb.res.five
            have hR2 := hR.put hdb.one c5 (.slice A5 n5 cc5) o5 l5 q5
            have hdb2 := hdb.store c5 (.slice A5 n5 cc5) o5 l5 q5
            obtain ⟨X5, hX⟩ : ∃ X, put5 w5 b c5 (.slice A5 n5 cc5) o5 l5 q5 = X := ⟨_, rfl⟩
            rw [hX] at hR2 hdb2
            have HX := Lib.hid hX
            have HR5 : Hid (Rd X5 (.agg #[.int .i64 (c5 : Int), .slice A5 n5 cc5, .bool o5, .int .i64 (l5 : Int), .int .i64 q5]) ⟨c5, D5, o5, l5, q5⟩) := Lib.hid hR2
            have HD5 := Lib.hid hdb2
            have HO5 := Lib.hid hok
            have HF5 := Lib.hid hfw
            clear b5 he5 hd hR hdb hR2 hdb2 hok hfw hX
            go_upto_region 12 with fail
            have hX := HX.out
            unfold put5 at hX
            rw [hX]
            clear hX p0 p1 p2 p3 p4 z0 z1 z2 z3 z4 y0 y1 y2 y3 y4 s0 s1 s2 s3 s4
            obtain ⟨p0, p1, p2, p3, p4, z0, z1, z2, z3, z4⟩ := HD5.out.one.five
            obtain ⟨y0, y1, y2, y3, y4, s0, s1, s2, s3, s4⟩ := HD5.out.res.five
            have HG5 := Lib.hid (HG4.out.trans (wl.run_one HEQ5.out))
            have HRET := Lib.hid (HD5.out.ret c5 (.slice A5 n5 cc5) o5 l5 q5)
            have HRR := Lib.hid (HR5.out.put HD5.out.res c5 (.slice A5 n5 cc5) o5 l5 q5)
            go_wp2_with fail
            refine bodyPost_ret (results_c1t rfl _ _ r _ _ (0, 0) _ rfl HRET.out.1 Tryd.underlying45 rfl rd_dsize) rfl ?_
            rw [HG5.out]
            exact ⟨_, rfl, HRR.out, HRET.out.2⟩
          · have i4 : ¬ (e4 : Int) = 0 := by omega
            have HG4 := Lib.hid (HG3.out.trans (wl.run_halt HEQ4.out h4))
            have HRET := Lib.hid (HD4.out.ret c4 (.slice A4 n4 cc4) o4 l4 q4)
            have HRR := Lib.hid (HR4.out.put HD4.out.res c4 (.slice A4 n4 cc4) o4 l4 q4)
            go_wp2_with fail
            refine bodyPost_ret (results_c1t rfl _ _ r _ _ (0, 0) _ rfl HRET.out.1 Tryd.underlying45 rfl rd_dsize) rfl ?_
            rw [HG4.out]
            exact ⟨_, rfl, HRR.out, HRET.out.2⟩
        · have i3 : ¬ (e3 : Int) = 0 := by omega
          have HG3 := Lib.hid (HG2.out.trans (wl.run_halt HEQ3.out h3))
          have HRET := Lib.hid (HD3.out.ret c3 (.slice A3 n3 cc3) o3 l3 q3)
          have HRR := Lib.hid (HR3.out.put HD3.out.res c3 (.slice A3 n3 cc3) o3 l3 q3)
          go_wp2_with fail
          refine bodyPost_ret (results_c1t rfl _ _ r _ _ (0, 0) _ rfl HRET.out.1 Tryd.underlying45 rfl rd_dsize) rfl ?_
          rw [HG3.out]
          exact ⟨_, rfl, HRR.out, HRET.out.2⟩
      · have i2 : ¬ (e2 : Int) = 0 := by omega
        have HG2 := Lib.hid (HG1.out.trans (wl.run_halt HEQ2.out h2))
        have HRET := Lib.hid (HD2.out.ret c2 (.slice A2 n2 cc2) o2 l2 q2)
        have HRR := Lib.hid (HR2.out.put HD2.out.res c2 (.slice A2 n2 cc2) o2 l2 q2)
        go_wp2_with fail
        refine bodyPost_ret (results_c1t rfl _ _ r _ _ (0, 0) _ rfl HRET.out.1 Tryd.underlying45 rfl rd_dsize) rfl ?_
        rw [HG2.out]
        exact ⟨_, rfl, HRR.out, HRET.out.2⟩
  · have i0 : ¬ (e1 : Int) = 0 := by omega
    have i3 : ¬ (e1 : Int) = 3 := by omega
    have j3 : ¬ e1 = 3 := by omega
    have j0 : ¬ e1 = 0 := by omega
    have kk : ((e1 : Int) != 0 && (e1 : Int) != 3) = true := by simp; omega
    have HG1 := Lib.hid (wl.write_stop0 (d := ⟨c0, D0, o0, l0, q0⟩) (d1 := ⟨c1, D1, o1, l1, q1⟩) (n := nm) (s := s) (e := e1) (by rw [HOE.out]; exact HEQ1.out) (by omega) (by omega))
    have HRET := Lib.hid (HD1.out.ret c1 (.slice A1 n1 cc1) o1 l1 q1)
    have HRR := Lib.hid (HR1.out.put HD1.out.res c1 (.slice A1 n1 cc1) o1 l1 q1)
    go_wp2_with fail
    refine bodyPost_ret (results_c1t rfl _ _ r _ _ (0, 0) _ rfl HRET.out.1 Tryd.underlying45 rfl rd_dsize) rfl ?_
    rw [HG1.out]
    exact ⟨_, rfl, HRR.out, HRET.out.2⟩
end
section
open Go Go.RowKit
set_option maxRecDepth 100000

set_option maxHeartbeats 4000000 in
theorem rd_joined (v : Value) (ls : List (List UInt8)) (w : World) (hv : Strs w v ls) (hf : (crcm.flat ls).length ≤ 1000000000) (hl : ls.length ≤ 1000000000) :
    Calls Tryd.prog 49 #[v] w fun e w' => e = .returned (.tuple #[.string (crcm.mk (wl.bytes ls).1), .bool (decide ((wl.bytes ls).2 = 0))]) ∧ Below w.heap.size w w' := by
  obtain ⟨A, c, rfl, hcells⟩ := hv
  have hsn : ∀ k, k < ls.length → ls.take (k + 1) = ls.take k ++ [ls.getD k []] := fun k h => by rw [List.take_add_one, List.getD_eq_getElem?_getD, List.getElem?_eq_getElem h]; rfl
  have hft := flat_take ls
  obtain ⟨n, hn⟩ : ∃ n, ls.length = n := ⟨_, rfl⟩
  have htk : ls.take n = ls := by rw [← hn]; exact List.take_length
  obtain ⟨F, hF⟩ : ∃ F, (crcm.flat ls).length = F := ⟨_, rfl⟩
  rw [hF] at hf hft
  rw [hn] at hcells hsn hl hft ⊢
  have hno : ∀ k, k < n → 65535 < (ls.getD k []).length → wl.bytes ls = ([], 71) := fun k hk h => by
    unfold wl.bytes
    rw [if_neg]
    rw [Bool.not_eq_true, List.all_eq_false]
    refine ⟨ls.getD k [], ?_, by simp [wl.fits]; exact h⟩
    rw [List.getD_eq_getElem?_getD, List.getElem?_eq_getElem (by rw [hn]; exact hk)]
    exact List.getElem_mem _
  have HC := Lib.hid hcells
  have HSN := Lib.hid hsn
  have HTK := Lib.hid htk
  have HFT := Lib.hid hft
  have HNO := Lib.hid hno
  clear hcells hsn htk hn hft hF hno
  go_enter Tryd.func49, Tryd.ntmps49
  go_wp2_with fail
  go_loopw [4, 5] (fun s i wr => ∃ k : Nat, k ≤ n ∧ i = .int .i64 k ∧ (ls.take k).all wl.fits = true ∧ s = .string (crcm.mk (crcm.flat (ls.take k))) ∧ Below w.heap.size w wr) (fun _ i _ => n - (Go.RowKit.intOf i).toNat)
  case atStart => exact ⟨0, Nat.zero_le _, rfl, rfl, rfl, Below.refl _ w⟩
  case round =>
    obtain ⟨k, hk, rfl, hall, rfl, hbw⟩ := hrel
    have HALL := Lib.hid hall
    have HBW := Lib.hid hbw
    clear hall
    by_cases hlt : k < n
    · obtain ⟨ad, rfl, c0⟩ := HC.out k hlt
      have c1 := cell_later hbw c0
      have hs := HSN.out k hlt
      have hft := HFT.out k hlt
      have hno := HNO.out k hlt
      obtain ⟨t, htt⟩ : ∃ t, ls.getD k [] = t := ⟨_, rfl⟩
      rw [htt] at c0 c1 hs hft hno
      obtain ⟨N, hN⟩ : ∃ N, t.length = N := ⟨_, rfl⟩
      rw [hN] at hft hno
      have hsz : (crcm.mk t).size ≤ maxLen := by rw [crcm.mk_size, hN]; unfold maxLen; omega
      have hput := rput_any (crcm.mk t) wr hsz
      rw [crcm.mk_toList] at hput
      by_cases hw : 65535 < N
      · have hp : crcm.put t = ([], 71) := by unfold crcm.put; rw [if_pos (by rw [hN]; exact hw)]
        rw [hp] at hput
        have HNN := Lib.hid (hno hw)
        clear hno hs htt hN hp c0 hbw
        go_wp2_with fail
        refine hput.mono ?_
        rintro e w1 ⟨rfl, hb1⟩
        go_wp2_with fail
        go_ret2
        rw [HNN.out]
        exact ⟨rfl, HBW.out.trans (hb1.mono HBW.out.size)⟩
      · have hp : crcm.put t = (crcm.body t, 0) := by unfold crcm.put; rw [if_neg (by rw [hN]; exact hw)]
        rw [hp] at hput
        have hfit : wl.fits t = true := by unfold wl.fits; rw [hN]; exact decide_eq_true (by omega)
        have hbl : (crcm.body t).length = 6 + N := by rw [crcm.body_len, hN]
        have HS := Lib.hid hs
        have HFI := Lib.hid hfit
        obtain ⟨P, hP⟩ : ∃ P, crcm.flat (ls.take k) = P := ⟨_, rfl⟩
        rw [hP] at hft ⊢
        have hcat : crcm.mk P ++ crcm.mk (crcm.body t) = crcm.mk (P ++ crcm.body t) := crcm.mk_append _ _
        have z1 : (crcm.mk P).size = P.length := crcm.mk_size _
        have z2 : (crcm.mk (crcm.body t)).size = 6 + N := by rw [crcm.mk_size, hbl]
        have hsum : ¬ 9223372036854775807 < P.length + (6 + N) := by omega
        have HP := Lib.hid hP
        clear hno hs htt hN hp c0 hfit hbl hP hbw
        go_wp2_with fail
        refine hput.mono ?_
        rintro e w1 ⟨rfl, hb1⟩
        have HB1 := Lib.hid (HBW.out.trans (hb1.mono HBW.out.size))
        clear hb1 hput
        go_wp2_with fail
        go_roundw
        case rel =>
          refine ⟨k + 1, by omega, by go_num, by rw [HS.out, List.all_append, HALL.out, List.all_cons, HFI.out]; rfl, ?_, HB1.out⟩
          rw [HS.out, crcm.flat_snoc, HP.out]
        case measure => simp [Go.RowKit.intOf]; omega
    · obtain rfl : k = n := by omega
      have hall := HALL.out
      rw [HTK.out] at hall ⊢
      have hres : wl.bytes ls = (crcm.flat ls, 0) := by unfold wl.bytes; rw [if_pos hall]
      have HR := Lib.hid hres
      clear hall hres
      go_wp2_with fail
      go_ret2
      rw [HR.out]
      exact ⟨rfl, hbw⟩
/-- a log of the document -/
def rlC (l : wl.L) : List Value := [.string (crcm.mk l.name), .int .i64 (l.many : Int), .bool l.off]
theorem rl_size : (Tryd.prog.info? 47).map (·.size) = some 3 := by kernel_rfl
/-- three cells of a log's box stored -/
abbrev put3 (W : World) (g : Nat) (n : vd.Name) (m : Nat) (off : Bool) : World :=
  ((W.setCell ⟨g, 0, none⟩ (.string (crcm.mk n))).setCell ⟨g, 1, none⟩ (.int .i64 (m : Int))).setCell ⟨g, 2, none⟩ (.bool off)
theorem put3_vb {W : World} {g : Nat} {t : TypeId} {a0 a1 a2 : Value} (h : Vb W g [a0, a1, a2] t) (n : vd.Name) (m : Nat) (off : Bool) : Vb (put3 W g n m off) g (rlC ⟨n, m, off⟩) t := ((h.set 0 _).set 1 _).set 2 _
theorem put3_below {w W : World} {g : Nat} (h : Below w.heap.size w W) (hg : w.heap.size ≤ g) (n : vd.Name) (m : Nat) (off : Bool) : Below w.heap.size w (put3 W g n m off) :=
  ((h.setCell (p := ⟨g, 0, none⟩) hg _).setCell (p := ⟨g, 1, none⟩) hg _).setCell (p := ⟨g, 2, none⟩) hg _
theorem put3_apart (W : World) (g : Nat) (n : vd.Name) (m : Nat) (off : Bool) : Apart [g] W (put3 W g n m off) :=
  ((Apart.setCell W g 0 _).trans (Apart.setCell _ g 1 _)).trans (Apart.setCell _ g 2 _)
theorem Vb.three {W : World} {g : Nat} {t : TypeId} {a0 a1 a2 : Value} (h : Vb W g [a0, a1, a2] t) :
    W.cell? ⟨g, 0, none⟩ = some a0 ∧ W.cell? ⟨g, 1, none⟩ = some a1 ∧ W.cell? ⟨g, 2, none⟩ = some a2 ∧
    W.frozen? ⟨g, 0, none⟩ = false ∧ W.frozen? ⟨g, 1, none⟩ = false ∧ W.frozen? ⟨g, 2, none⟩ = false :=
  ⟨h.cell 0 _ rfl, h.cell 1 _ rfl, h.cell 2 _ rfl, h.free 0, h.free 1, h.free 2⟩
set_option maxHeartbeats 4000000 in
theorem rd_told (l : wl.L) (er m : Nat) (w : World) :
    Calls Tryd.prog 51 #[.agg #[.string (crcm.mk l.name), .int .i64 (l.many : Int), .bool l.off], .int .i64 (er : Int), .int .i64 (m : Int)] w fun e w' => e = .returned (.agg #[.string (crcm.mk (wl.told l er m).name), .int .i64 ((wl.told l er m).many : Int), .bool (wl.told l er m).off]) ∧ Below w.heap.size w w' := by
  obtain ⟨nm, mn, of⟩ := l
  obtain ⟨W, hW⟩ : ∃ W, w.alloc (.cells #[.string (crcm.mk nm), .int .i64 (mn : Int), .bool of] 47) = W := ⟨_, rfl⟩
  have hb : Below w.heap.size w W := by rw [← hW]; exact (Below.refl _ w).alloc (Nat.le_refl _) _
  have hs : W.heap.size = w.heap.size + 1 := by rw [← hW]; exact Array.size_push _
  have hv : Vb W w.heap.size [.string (crcm.mk nm), .int .i64 (mn : Int), .bool of] 47 := by rw [← hW]; exact Vb.new w _ _
  obtain ⟨W2, hW2⟩ : ∃ W2, W.alloc (.cells #[.string ⟨#[]⟩, .int .i64 0, .bool false] 47) = W2 := ⟨_, rfl⟩
  have hb2 : Below W.heap.size W W2 := by rw [← hW2]; exact (Below.refl _ W).alloc (Nat.le_refl _) _
  have hr : Vb W2 W.heap.size [.string ⟨#[]⟩, .int .i64 0, .bool false] 47 := by rw [← hW2]; exact Vb.new W _ _
  have hv2 := hv.below hb2
  have hB := hb.trans (hb2.mono hb.size)
  obtain ⟨b, hbb⟩ : ∃ x, w.heap.size = x := ⟨_, rfl⟩
  obtain ⟨r, hrr⟩ : ∃ x, W.heap.size = x := ⟨_, rfl⟩
  rw [hbb] at hv2
  rw [hrr] at hr
  have nbr : ¬ b = r := by omega
  have nrb : ¬ r = b := by omega
  obtain ⟨p0, p1, p2, z0, z1, z2⟩ := hv2.three
  obtain ⟨y0, y1, y2, s0, s1, s2⟩ := hr.three
  have HB : Hid (Below w.heap.size w W2) := Lib.hid hB
  have HR := Lib.hid hr
  have HS : Hid (w.heap.size ≤ b ∧ w.heap.size ≤ r) := Lib.hid ⟨by omega, by omega⟩
  have HNR : Hid (r ∉ [b]) := Lib.hid (by simp; omega)
  clear hb hb2 hv hv2 hr hB hs
  unfold wl.told
  by_cases h0 : er = 0
  · subst h0
    have HF := Lib.hid (And.intro (put3_vb (HR.out.apart (Apart.setCell W2 b 1 (.int .i64 (m : Int))) HNR.out) nm m of) (put3_below (HB.out.setCell (p := ⟨b, 1, none⟩) HS.out.1 (.int .i64 (m : Int))) HS.out.2 nm m of))
    simp only [if_true]
    go_enter Tryd.func51, Tryd.ntmps51
    go_wp2_with fail
    refine bodyPost_ret (results_c1 rfl _ _ r _ _ (0, 0) _ rfl HF.out.1 Tryd.underlying47 rfl rl_size) rfl ?_
    exact ⟨rfl, HF.out.2⟩
  · rw [if_neg h0]
    have i0 : ¬ (er : Int) = 0 := by omega
    by_cases h2 : er = 2
    · subst h2
      have HF := Lib.hid (And.intro (put3_vb HR.out nm mn of) (put3_below HB.out HS.out.2 nm mn of))
      simp only [if_true]
      go_enter Tryd.func51, Tryd.ntmps51
      go_wp2_with fail
      refine bodyPost_ret (results_c1 rfl _ _ r _ _ (0, 0) _ rfl HF.out.1 Tryd.underlying47 rfl rl_size) rfl ?_
      exact ⟨rfl, HF.out.2⟩
    · have HF := Lib.hid (And.intro (put3_vb (HR.out.apart (Apart.setCell W2 b 2 (.bool true)) HNR.out) nm mn true) (put3_below (HB.out.setCell (p := ⟨b, 2, none⟩) HS.out.1 (.bool true)) HS.out.2 nm mn true))
      rw [if_neg h2]
      have i2 : ¬ (er : Int) = 2 := by omega
      go_enter Tryd.func51, Tryd.ntmps51
      go_wp2_with fail
      refine bodyPost_ret (results_c1 rfl _ _ r _ _ (0, 0) _ rfl HF.out.1 Tryd.underlying47 rfl rl_size) rfl ?_
      exact ⟨rfl, HF.out.2⟩
end
section
open Go Go.RowKit
set_option maxRecDepth 100000

theorem results_c2t {P : Program} {fn : Func} {p q u : Tmp} {ty ty2 : TypeId} (h : fn.results = #[.cell p ty, .cell q ty2, .tmp u]) (tmps : Array Value) (w : World) (g g2 : Nat) (t t2 : TypeId) (cs cs2 : Array Value) (fr fr2 : Nat × Nat) (d d2 : TypeDesc)
    (hp : tmps.getD p undef = .pointer (some ⟨g, 0, none⟩)) (hg : w.heap[g]? = some (.cells cs t fr))
    (hu : P.underlying ty = some d) (hd : (match d with | .struct _ | .array _ _ => true | _ => false) = true) (hi : (P.info? ty).map (·.size) = some cs.size)
    (hq : tmps.getD q undef = .pointer (some ⟨g2, 0, none⟩)) (hg2 : w.heap[g2]? = some (.cells cs2 t2 fr2))
    (hu2 : P.underlying ty2 = some d2) (hd2 : (match d2 with | .struct _ | .array _ _ => true | _ => false) = true) (hi2 : (P.info? ty2).map (·.size) = some cs2.size) :
    (results fn tmps).run P w = .ok (.tuple #[.agg cs, .agg cs2, tmps.getD u undef]) w := by
  have hp' : tmps[p]?.getD undef = .pointer (some ⟨g, 0, none⟩) := by simpa using hp
  have hq' : tmps[q]?.getD undef = .pointer (some ⟨g2, 0, none⟩) := by simpa using hq
  simp [results, h, hp', hq', asAddr, run_loadVar_row w g t ty cs fr d hg hu hd hi, run_loadVar_row w g2 t2 ty2 cs2 fr2 d2 hg2 hu2 hd2 hi2]
theorem results_c2tt {P : Program} {fn : Func} {p q u x : Tmp} {ty ty2 : TypeId} (h : fn.results = #[.cell p ty, .cell q ty2, .tmp u, .tmp x]) (tmps : Array Value) (w : World) (g g2 : Nat) (t t2 : TypeId) (cs cs2 : Array Value) (fr fr2 : Nat × Nat) (d d2 : TypeDesc)
    (hp : tmps.getD p undef = .pointer (some ⟨g, 0, none⟩)) (hg : w.heap[g]? = some (.cells cs t fr))
    (hu : P.underlying ty = some d) (hd : (match d with | .struct _ | .array _ _ => true | _ => false) = true) (hi : (P.info? ty).map (·.size) = some cs.size)
    (hq : tmps.getD q undef = .pointer (some ⟨g2, 0, none⟩)) (hg2 : w.heap[g2]? = some (.cells cs2 t2 fr2))
    (hu2 : P.underlying ty2 = some d2) (hd2 : (match d2 with | .struct _ | .array _ _ => true | _ => false) = true) (hi2 : (P.info? ty2).map (·.size) = some cs2.size) :
    (results fn tmps).run P w = .ok (.tuple #[.agg cs, .agg cs2, tmps.getD u undef, tmps.getD x undef]) w := by
  have hp' : tmps[p]?.getD undef = .pointer (some ⟨g, 0, none⟩) := by simpa using hp
  have hq' : tmps[q]?.getD undef = .pointer (some ⟨g2, 0, none⟩) := by simpa using hq
  simp [results, h, hp', hq', asAddr, run_loadVar_row w g t ty cs fr d hg hu hd hi, run_loadVar_row w g2 t2 ty2 cs2 fr2 d2 hg2 hu2 hd2 hi2]
def lgA (l : wl.L) : Value := .agg #[.string (crcm.mk l.name), .int .i64 (l.many : Int), .bool l.off]
/-- what a log's call answers -/
def LgTo (w : World) (x : vd.Disk × wl.L × Nat) (e : Ending) (w' : World) : Prop := ∃ v, e = .returned (.tuple #[v, lgA x.2.1, .int .i64 (x.2.2 : Int)]) ∧ Rd w' v x.1 ∧ Below w.heap.size w w'
/-- a box of a log -/
structure LX (w W : World) (g : Nat) (vs : List Value) : Prop where
  hb : w.heap.size ≤ g
  one : Vb W g vs 47
theorem LX.later {w W W' : World} {g : Nat} {vs : List Value} (h : LX w W g vs) (hb : Below W.heap.size W W') : LX w W' g vs := ⟨h.hb, h.one.below hb⟩
theorem LX.put {w W : World} {g r : Nat} {vs : List Value} (h : LX w W g vs) (hr : ¬ g = r) (c : Nat) (v : Value) (off : Bool) (left : Nat) (keep : Int) : LX w (put5 W r c v off left keep) g vs :=
  ⟨h.hb, h.one.apart (put5_apart W r c v off left keep) (by simpa using hr)⟩
/-- both answers' boxes stored -/
theorem DB.ret2 {w W : World} {b r lr : Nat} {vs : List Value} {a0 a1 a2 : Value} (h : DB w W b r vs) (hl : LX w W lr [a0, a1, a2]) (hn : ¬ lr = r) (c : Nat) (v : Value) (off : Bool) (left : Nat) (keep : Int) (n : vd.Name) (m : Nat) (of : Bool) :
    Vb (put3 (put5 W r c v off left keep) lr n m of) r (rdC c v off left keep) 45 ∧ Vb (put3 (put5 W r c v off left keep) lr n m of) lr (rlC ⟨n, m, of⟩) 47 ∧ Below w.heap.size w (put3 (put5 W r c v off left keep) lr n m of) := by
  have h1 := h.ret c v off left keep
  have h2 := hl.put hn c v off left keep
  exact ⟨h1.1.apart (put3_apart _ lr n m of) (by simp; omega), put3_vb h2.one n m of, put3_below h1.2 hl.hb n m of⟩
theorem Vb.drew {w : World} {g : Nat} {vs : List Value} {t : TypeId} (h : Vb w g vs t) : Vb w.drew g vs t := h
theorem DB.ret2d {w W : World} {b r lr : Nat} {vs : List Value} {a0 a1 a2 : Value} (h : DB w W b r vs) (hl : LX w W lr [a0, a1, a2]) (hn : ¬ lr = r) (c : Nat) (v : Value) (off : Bool) (left : Nat) (keep : Int) (n : vd.Name) (m : Nat) (of : Bool) :
    Vb (put3 (put5 W r c v off left keep) lr n m of).drew r (rdC c v off left keep) 45 ∧ Vb (put3 (put5 W r c v off left keep) lr n m of).drew lr (rlC ⟨n, m, of⟩) 47 ∧ Below w.heap.size w (put3 (put5 W r c v off left keep) lr n m of).drew := by
  have h := h.ret2 hl hn c v off left keep n m of
  exact ⟨h.1.drew, h.2.1.drew, h.2.2.drew⟩
theorem Rd.put3 {w : World} {v : Value} {d : vd.Disk} (h : Rd w v d) {g : Nat} {vs : List Value} (hv : Vb w g vs 47) (n : vd.Name) (m : Nat) (of : Bool) : Rd (put3 w g n m of) v d := by
  obtain ⟨L, A, cc, h1, h2, h3⟩ := h
  exact ⟨L, A, cc, h1, owns_apart h2 (put3_apart w g n m of) (fun x hx => by simpa using h2.out hv (by decide) x hx), h3⟩
theorem Rd.ret2 {w W : World} {b r lr : Nat} {vs ls : List Value} {u : Value} {d : vd.Disk} (hr : Rd W u d) (h : DB w W b r vs) (hl : LX w W lr ls) (hn : ¬ lr = r) (c : Nat) (v : Value) (off : Bool) (left : Nat) (keep : Int) (n : vd.Name) (m : Nat) (of : Bool) :
    Rd (Go.Proofs.YtdnoeahhidmkbaaDoor.put3 (put5 W r c v off left keep) lr n m of) u d :=
  (hr.put h.res c v off left keep).put3 (hl.put hn c v off left keep).one n m of
theorem Rd.drew {w : World} {v : Value} {d : vd.Disk} (h : Rd w v d) : Rd w.drew v d := h.later (below_drewN (Below.refl _ w) 1)
namespace wl
theorem few_run {fs : List Op1} (h : ∀ f ∈ fs, ∀ d, vd.Few d → vd.Few (f d).1) {d : vd.Disk} (hd : vd.Few d) : vd.Few (run fs d).1 := by
  induction fs generalizing d with
  | nil => exact hd
  | cons f r ih =>
    unfold run
    split
    · exact h f (by simp) d hd
    · exact ih (fun g hg => h g (by simp [hg])) (h f (by simp) d hd)
theorem few_write {d : vd.Disk} (h : vd.Few d) (n : vd.Name) (s : List UInt8) : vd.Few (write d n s).1 := by
  refine few_run ?_ h
  intro f hf d hd
  simp only [writeOps, List.mem_cons, List.not_mem_nil, or_false] at hf
  rcases hf with rfl | rfl | rfl | rfl | rfl
  · exact vd.few_delete hd _
  · exact vd.few_create hd _
  · exact vd.few_append hd _ _
  · exact vd.few_sync hd _
  · exact vd.few_rename hd _ _
theorem few_change {d : vd.Disk} (h : vd.Few d) (l : L) (ls : List (List UInt8)) (m : Nat) (op : List UInt8 → Op1) (ho : ∀ s, vd.Few (op s d).1) : vd.Few (change d l ls m op).1 := by
  unfold change
  split
  · exact h
  · split
    · exact h
    · exact ho _
theorem few_append {d : vd.Disk} (h : vd.Few d) (l : L) (ls : List (List UInt8)) : vd.Few (append d l ls).1 := by
  refine few_change h _ _ _ _ (fun s => few_run ?_ h)
  intro f hf d hd
  simp only [appendOps, List.mem_cons, List.not_mem_nil, or_false] at hf
  rcases hf with rfl | rfl
  · exact vd.few_append hd _ _
  · exact vd.few_sync hd _
theorem few_reset {d : vd.Disk} (h : vd.Few d) (l : L) (ls : List (List UInt8)) : vd.Few (reset d l ls).1 := few_change h _ _ _ _ (fun s => few_write h _ s)
end wl
end
end Go.Proofs.YtdnoeahhidmkbaaDoor
