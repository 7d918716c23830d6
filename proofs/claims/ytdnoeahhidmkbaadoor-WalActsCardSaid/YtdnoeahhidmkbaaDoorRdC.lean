/- The document's disk and log: RdCreate, RdDelete, RdSync, RdAppend, RdRename, RdRead, RdUse, one behind the other. -/
import Derived.Test.YtdnoeahhidmkbaaDoorRdB
namespace Go.Proofs.YtdnoeahhidmkbaaDoor
section
open Go Go.RowKit
set_option maxRecDepth 100000

namespace vd
theorem create_err {d : Disk} {m : Name} {en : Nat} (h : nameErr d.off [m] = en) (h0 : ¬ en = 0) : create d m = (d, en) := by subst h; unfold create; rw [if_pos h0]
theorem create_twice {d : Disk} {m : Name} (h : nameErr d.off [m] = 0) (hh : has d.files m = true) : create d m = (d, 4) := by unfold create; rw [h, if_neg (by simp), if_pos hh]
theorem create_full {d : Disk} {m : Name} (h : nameErr d.off [m] = 0) (hh : has d.files m = false) (hl : 200 ≤ d.files.length) : create d m = (d, 2) := by unfold create; rw [h, if_neg (by simp), if_neg (by rw [hh]; simp), if_pos hl]
theorem create_new {d : Disk} {m : Name} (h : nameErr d.off [m] = 0) (hh : has d.files m = false) (hl : ¬ 200 ≤ d.files.length) : create d m = (done d (put d.files m ([], 0)) false, doneE d) := by unfold create; rw [h, if_neg (by simp), if_neg (by rw [hh]; simp), if_neg hl]
theorem ok_new {d : Disk} {m : Name} (h : Ok d) (hn : nameErr d.off [m] = 0) : Ok ⟨d.cap, put d.files m ([], 0), d.off, d.left, d.keep⟩ :=
  ok_put h m ([], 0) (good_len (err_zero hn).2) (Nat.le_refl _) (by have := h.tot; show _ + 0 ≤ _; omega)
end vd
section
variable {w : World} {c cc n left : Nat} {A : Option Addr} {off : Bool} {keep : Int} {L D : vd.Files}
set_option maxHeartbeats 16000000 in
theorem rd_create (m : vd.Name) (hm : m.length ≤ maxLen) (hL : FRow w 0 (.slice A n cc) L) (hn : L.length = n) (hp : L.Perm D) (hok : vd.Ok ⟨c, D, off, left, keep⟩) (hf : D.length ≤ 200) :
    Calls Tryd.prog 77 #[rdV c (.slice A n cc) off left keep, keyV m] w (RdTo w (vd.create ⟨c, D, off, left, keep⟩ m)) := by
  obtain ⟨W, hW⟩ : ∃ W, w.alloc (.cells #[.int .i64 (c : Int), .slice A n cc, .bool off, .int .i64 (left : Int), .int .i64 keep] 45) = W := ⟨_, rfl⟩
  obtain ⟨W2, hW2⟩ : ∃ W2, W.alloc (.cells #[.int .i64 0, .slice none 0 0, .bool false, .int .i64 0, .int .i64 0] 45) = W2 := ⟨_, rfl⟩
  have hdb : DB w W2 w.heap.size W.heap.size (rdC c (.slice A n cc) off left keep) := by rw [← hW2, ← hW]; exact DB.new w _
  obtain ⟨b, hb⟩ : ∃ x, w.heap.size = x := ⟨_, rfl⟩
  obtain ⟨r, hr⟩ : ∃ x, W.heap.size = x := ⟨_, rfl⟩
  rw [hb, hr] at hdb
  have hbr : ¬ b = r := by have := hdb.hr; omega
  have hrb : ¬ r = b := by omega
  have HLL : Hid (∀ w', Below w.heap.size w w' → FRow w' 0 (.slice A n cc) L) := Lib.hid fun w' h => owns_below hL h
  have HRD : Hid (∀ w', Below w.heap.size w w' → Rd w' (rdV c (.slice A n cc) off left keep) ⟨c, D, off, left, keep⟩) := Lib.hid fun w' h => Rd.mk' (owns_below hL h) hn hp
  have HTL := Lib.hid (tidy_of hok (Nat.le_trans hf (by omega)) hp)
  have hln : n ≤ 1000 := by have := HTL.out.len; omega
  have hlf : left ≤ 9223372036854775807 := hok.lef
  have HN := Lib.hid hn
  have HP := Lib.hid hp
  have HOK := Lib.hid hok
  have HF := Lib.hid hf
  have HM := Lib.hid hm
  have HDB := Lib.hid hdb
  clear hdb
  clear hL hn hp hok hf
  obtain ⟨p0, p1, p2, p3, p4, z0, z1, z2, z3, z4⟩ := HDB.out.one.five
  have hw := rd_wrong (w := W2) (c := c) (off := off) (left := left) (keep := keep) (.slice A n cc) m HM.out
  obtain ⟨en, hen⟩ : ∃ en, vd.nameErr off [m] = en := ⟨_, rfl⟩
  rw [hen] at hw
  have HEN : Hid (vd.nameErr (vd.Disk.off ⟨c, D, off, left, keep⟩) [m] = en) := Lib.hid hen
  unfold rdV keyV at hw ⊢
  clear hm hen
  go_enter Tryd.func77, Tryd.ntmps77
  go_wp2_with fail
  refine hw.mono ?_
  rintro e w3 ⟨rfl, b3⟩
  have HD3 := Lib.hid (HDB.out.later b3)
  clear p0 p1 p2 p3 p4 z0 z1 z2 z3 z4 hw b3
  obtain ⟨p0, p1, p2, p3, p4, z0, z1, z2, z3, z4⟩ := HD3.out.one.five
  obtain ⟨y0, y1, y2, y3, y4, s0, s1, s2, s3, s4⟩ := HD3.out.res.five
  by_cases h0 : en = 0
  · have e0 : ((en : Int) = 0) = True := by simp [h0]
    subst h0
    have hfi := rd_find (w := w3) (c := c) (off := off) (left := left) (keep := keep) m (HLL.out _ HD3.out.below) HN.out hln
    unfold rdV keyV at hfi
    clear e0
    go_wp2_with fail
    refine hfi.mono ?_
    rintro e w4 ⟨i, rfl, b4, hi⟩
    have HD4 := Lib.hid (HD3.out.later b4)
    clear p0 p1 p2 p3 p4 z0 z1 z2 z3 z4 y0 y1 y2 y3 y4 s0 s1 s2 s3 s4 hfi b4
    obtain ⟨p0, p1, p2, p3, p4, z0, z1, z2, z3, z4⟩ := HD4.out.one.five
    obtain ⟨y0, y1, y2, y3, y4, s0, s1, s2, s3, s4⟩ := HD4.out.res.five
    rcases hi with ⟨rfl, hno⟩ | ⟨j, x, rfl, hx, hxm⟩
    · have HNO := Lib.hid (vd.not_has HP.out hno)
      clear hno
      by_cases h2 : 200 ≤ n
      · have i2 : (200 : Int) ≤ (n : Int) := by omega
        have HEQ := Lib.hid (vd.create_full (d := ⟨c, D, off, left, keep⟩) HEN.out HNO.out (by show 200 ≤ D.length; rw [← HP.out.length_eq, HN.out]; exact h2))
        have HRET := Lib.hid (HD4.out.ret c (.slice A n cc) off left keep)
        go_wp2_with fail
        refine bodyPost_ret (results_c1t rfl _ _ r _ _ (0, 0) _ rfl HRET.out.1 Tryd.underlying45 rfl rd_dsize) rfl ?_
        rw [HEQ.out]
        exact ⟨_, rfl, HRD.out _ HRET.out.2, HRET.out.2⟩
      · have i2 : ¬ (200 : Int) ≤ (n : Int) := by omega
        have HEQ := Lib.hid (vd.create_new (d := ⟨c, D, off, left, keep⟩) HEN.out HNO.out (by show ¬ 200 ≤ D.length; rw [← HP.out.length_eq, HN.out]; exact h2))
        obtain ⟨W5, hW5⟩ : ∃ W5, w4.alloc (.cells #[.int .i64 (c : Int), .slice A n cc, .bool off, .int .i64 (left : Int), .int .i64 keep] 45) = W5 := ⟨_, rfl⟩
        have hb5 : Below w4.heap.size w4 W5 := by rw [← hW5]; exact (Below.refl _ w4).alloc (Nat.le_refl _) _
        have HD5 := Lib.hid (HD4.out.later hb5)
        have hg5 : Vb W5 w4.heap.size (rdC c (.slice A n cc) off left keep) 45 := by rw [← hW5]; exact Vb.new w4 _ _
        have hgs : W5.heap.size = w4.heap.size + 1 := by rw [← hW5]; exact Array.size_push _
        obtain ⟨g, hg⟩ : ∃ x, w4.heap.size = x := ⟨_, rfl⟩
        rw [hg] at hg5 hgs
        have hrg : r < g := by rw [← hg]; exact HD4.out.res.lt
        have HG5 := Lib.hid hg5
        have HGS := Lib.hid hgs
        have HHG := Lib.hid hg
        have ngb : ¬ g = b := by have := HD5.out.hr; omega
        have nbg : ¬ b = g := by omega
        have ngr : ¬ g = r := by omega
        have nrg : ¬ r = g := by omega
        clear hb5 hg5 hgs y0 y1 y2 y3 y4 s0 s1 s2 s3 s4
        obtain ⟨p0b, p1b, p2b, p3b, p4b, z0b, z1b, z2b, z3b, z4b⟩ := HD5.out.one.five
        have hwi : Calls Tryd.prog 99 #[.slice A n cc, .agg #[.string (crcm.mk m), .string .empty, .int .i64 0]] W5 _ := rd_with (w := W5) (m, ([], 0)) (HLL.out _ HD5.out.below) HN.out hln
        go_wp2_with fail
        refine hwi.mono ?_
        rintro e w6 ⟨v6, M, rfl, ho6, hM6, b6⟩
        obtain ⟨A6, c6, rfl⟩ := ho6.form
        obtain ⟨m6, hm6⟩ : ∃ x, M.length = x := ⟨_, rfl⟩
        rw [hm6] at ho6 ⊢
        have HM6 := Lib.hid hm6
        clear hm6
        have HD6 := Lib.hid (HD5.out.later b6)
        have hg6 := HG5.out.below b6
        obtain ⟨u0, u1, u2, u3, u4, t0, t1, t2, t3, t4⟩ := hg6.five
        have hg7 := hg6.set 1 (.slice A6 (m6) c6)
        have ho7 := ownsRow_setCell_below ho6 (a := ⟨g, 1, none⟩) (by show g < W5.heap.size; rw [HGS.out]; omega) (.slice A6 (m6) c6)
        have hdb7 : DB w (w6.setCell ⟨g, 1, none⟩ (.slice A6 (m6) c6)) b r (rdC c (.slice A n cc) off left keep) :=
          ⟨HD6.out.below.setCell (p := ⟨g, 1, none⟩) (by show w.heap.size ≤ g; have := HD6.out.hb; have := HD6.out.hr; omega) _, HD6.out.hb, HD6.out.hr, HD6.out.one.apart (Apart.setCell _ _ _ _) (by simp; omega), HD6.out.res.apart (Apart.setCell _ _ _ _) (by simp; omega)⟩
        obtain ⟨X7, hX7⟩ : ∃ X7, w6.setCell ⟨g, 1, none⟩ (.slice A6 (m6) c6) = X7 := ⟨_, rfl⟩
        rw [hX7] at hg7 ho7 hdb7
        have HD7 := Lib.hid hdb7
        have HG7 := Lib.hid hg7
        have HO7B := Lib.hid ho7
        have HO7 := Lib.hid (owns_mono ho7 (Nat.zero_le _))
        clear p0b p1b p2b p3b p4b z0b z1b z2b z3b z4b hg6 ho7 hdb7 ho6 b6
        obtain ⟨p0, p1, p2, p3, p4, z0, z1, z2, z3, z4⟩ := HD7.out.one.five
        obtain ⟨v0, v1, v2, v3, v4, x0, x1, x2, x3, x4⟩ := hg7.five
        clear hg7
        have HMP : Hid (M.Perm (vd.put D m ([], 0))) := Lib.hid (hM6.trans (((HP.out).cons _).trans (by
          have h := vd.put_cons D m ([], 0) HOK.out.nod
          rw [← vd.del_filter D m HOK.out.nod, vd.del_none D m HNO.out] at h
          exact h.symm)))
        have HMT := Lib.hid (tidy_of (d := ⟨c, vd.put D m ([], 0), off, left, keep⟩) (vd.ok_new HOK.out HEN.out) (by show (vd.put D m ([], 0)).length ≤ 1000; rw [vd.put_len2]; have := HF.out; split <;> omega) HMP.out)
        have hdn := rd_done (w := X7) (c := c) (n := n) (cc := cc) (off := off) (left := left) (keep := keep) (L := L) (B := A6) (m := m6) (dd := c6) (M := M) false (HLL.out _ HD7.out.below) HN.out HO7.out HM6.out HTL.out HMT.out hlf
        unfold rdV at hdn
        clear hwi hM6
        go_wp2_with fail
        refine hdn.mono ?_
        rintro e w9 ⟨v9, rfl, ho9, b9⟩
        obtain ⟨A9, c9, rfl⟩ := ho9.form
        have hto := rd_done_to (a := false) HP.out HMP.out ho9
        obtain ⟨n9, hn9⟩ : ∃ x, (vd.done ⟨c, L, off, left, keep⟩ M false).files.length = x := ⟨_, rfl⟩
        rw [hn9] at hto ⊢
        obtain ⟨⟨k0, F0, o0, l0, q0⟩, hd0⟩ : ∃ x, vd.done ⟨c, L, off, left, keep⟩ M false = x := ⟨_, rfl⟩
        rw [hd0] at hto ⊢
        have hag : ∀ v, rdD ⟨k0, F0, o0, l0, q0⟩ v = .agg #[.int .i64 (k0 : Int), v, .bool o0, .int .i64 (l0 : Int), .int .i64 q0] := fun v => rfl
        have hde : vd.doneE ⟨c, L, off, left, keep⟩ = vd.doneE ⟨c, D, off, left, keep⟩ := rfl
        rw [hde]
        obtain ⟨e9, he9⟩ : ∃ x, vd.doneE ⟨c, D, off, left, keep⟩ = x := ⟨_, rfl⟩
        rw [he9, hag]
        have HD9 := Lib.hid (HD7.out.later b9)
        have HTO := Lib.hid (hto.put HD9.out.res k0 (.slice A9 n9 c9) o0 l0 q0)
        have HE9 := Lib.hid he9
        have HRET := Lib.hid (HD9.out.ret k0 (.slice A9 n9 c9) o0 l0 q0)
        clear hdn ho9 b9 hto hn9 hd0 hag hde he9
        obtain ⟨y0i, y1i, y2i, y3i, y4i, s0i, s1i, s2i, s3i, s4i⟩ := HD9.out.res.five
        go_wp2_with fail
        refine bodyPost_ret (results_c1t rfl _ _ r _ _ (0, 0) _ rfl HRET.out.1 Tryd.underlying45 rfl rd_dsize) rfl ?_
        rw [HEQ.out]
        refine ⟨_, ?_, HTO.out, HRET.out.2⟩
        rw [← HE9.out]; rfl
    · have HX := Lib.hid (vd.is_there HP.out HOK.out.nod hx hxm)
      have HEQ := Lib.hid (vd.create_twice (d := ⟨c, D, off, left, keep⟩) HEN.out HX.out.1)
      clear hx hxm
      have HRET := Lib.hid (HD4.out.ret c (.slice A n cc) off left keep)
      go_wp2_with fail
      refine bodyPost_ret (results_c1t rfl _ _ r _ _ (0, 0) _ rfl HRET.out.1 Tryd.underlying45 rfl rd_dsize) rfl ?_
      rw [HEQ.out]
      exact ⟨_, rfl, HRD.out _ HRET.out.2, HRET.out.2⟩
  · have HEQ := Lib.hid (vd.create_err (d := ⟨c, D, off, left, keep⟩) HEN.out h0)
    have e0 : ¬ (en : Int) = 0 := by omega
    have HRET := Lib.hid (HD3.out.ret c (.slice A n cc) off left keep)
    go_wp2_with fail
    refine bodyPost_ret (results_c1t rfl _ _ r _ _ (0, 0) _ rfl HRET.out.1 Tryd.underlying45 rfl rd_dsize) rfl ?_
    rw [HEQ.out]
    exact ⟨_, rfl, HRD.out _ HRET.out.2, HRET.out.2⟩
end
end
section
open Go Go.RowKit
set_option maxRecDepth 100000

section
variable {w : World} {c cc n left : Nat} {A : Option Addr} {off : Bool} {keep : Int} {L D : vd.Files}
set_option maxHeartbeats 16000000 in
theorem rd_delete (m : vd.Name) (hm : m.length ≤ maxLen) (hL : FRow w 0 (.slice A n cc) L) (hn : L.length = n) (hp : L.Perm D) (hok : vd.Ok ⟨c, D, off, left, keep⟩) (hf : D.length ≤ 200) :
    Calls Tryd.prog 76 #[rdV c (.slice A n cc) off left keep, keyV m] w (RdTo w (vd.delete ⟨c, D, off, left, keep⟩ m)) := by
  obtain ⟨W, hW⟩ : ∃ W, w.alloc (.cells #[.int .i64 (c : Int), .slice A n cc, .bool off, .int .i64 (left : Int), .int .i64 keep] 45) = W := ⟨_, rfl⟩
  obtain ⟨W2, hW2⟩ : ∃ W2, W.alloc (.cells #[.int .i64 0, .slice none 0 0, .bool false, .int .i64 0, .int .i64 0] 45) = W2 := ⟨_, rfl⟩
  have hdb : DB w W2 w.heap.size W.heap.size (rdC c (.slice A n cc) off left keep) := by rw [← hW2, ← hW]; exact DB.new w _
  obtain ⟨b, hb⟩ : ∃ x, w.heap.size = x := ⟨_, rfl⟩
  obtain ⟨r, hr⟩ : ∃ x, W.heap.size = x := ⟨_, rfl⟩
  rw [hb, hr] at hdb
  have hbr : ¬ b = r := by have := hdb.hr; omega
  have hrb : ¬ r = b := by omega
  have HLL : Hid (∀ w', Below w.heap.size w w' → FRow w' 0 (.slice A n cc) L) := Lib.hid fun w' h => owns_below hL h
  have HRD : Hid (∀ w', Below w.heap.size w w' → Rd w' (rdV c (.slice A n cc) off left keep) ⟨c, D, off, left, keep⟩) := Lib.hid fun w' h => Rd.mk' (owns_below hL h) hn hp
  have HTL := Lib.hid (tidy_of hok (Nat.le_trans hf (by omega)) hp)
  have hln : n ≤ 1000 := by have := HTL.out.len; omega
  have hlf : left ≤ 9223372036854775807 := hok.lef
  have HN := Lib.hid hn
  have HP := Lib.hid hp
  have HOK := Lib.hid hok
  have HF := Lib.hid hf
  have HM := Lib.hid hm
  have HDB := Lib.hid hdb
  clear hdb
  clear hL hn hp hok hf
  obtain ⟨p0, p1, p2, p3, p4, z0, z1, z2, z3, z4⟩ := HDB.out.one.five
  have hw := rd_wrong (w := W2) (c := c) (off := off) (left := left) (keep := keep) (.slice A n cc) m HM.out
  obtain ⟨en, hen⟩ : ∃ en, vd.nameErr off [m] = en := ⟨_, rfl⟩
  rw [hen] at hw
  have HEN : Hid (vd.nameErr (vd.Disk.off ⟨c, D, off, left, keep⟩) [m] = en) := Lib.hid hen
  unfold rdV keyV at hw ⊢
  clear hm hen
  go_enter Tryd.func76, Tryd.ntmps76
  go_wp2_with fail
  refine hw.mono ?_
  rintro e w3 ⟨rfl, b3⟩
  have HD3 := Lib.hid (HDB.out.later b3)
  clear p0 p1 p2 p3 p4 z0 z1 z2 z3 z4 hw b3
  obtain ⟨p0, p1, p2, p3, p4, z0, z1, z2, z3, z4⟩ := HD3.out.one.five
  obtain ⟨y0, y1, y2, y3, y4, s0, s1, s2, s3, s4⟩ := HD3.out.res.five
  by_cases h0 : en = 0
  · subst h0
    have hfi := rd_find (w := w3) (c := c) (off := off) (left := left) (keep := keep) m (HLL.out _ HD3.out.below) HN.out hln
    unfold rdV keyV at hfi
    go_wp2_with fail
    refine hfi.mono ?_
    rintro e w4 ⟨i, rfl, b4, hi⟩
    have HD4 := Lib.hid (HD3.out.later b4)
    clear p0 p1 p2 p3 p4 z0 z1 z2 z3 z4 y0 y1 y2 y3 y4 s0 s1 s2 s3 s4 hfi b4
    obtain ⟨p0, p1, p2, p3, p4, z0, z1, z2, z3, z4⟩ := HD4.out.one.five
    obtain ⟨y0, y1, y2, y3, y4, s0, s1, s2, s3, s4⟩ := HD4.out.res.five
    rcases hi with ⟨rfl, hno⟩ | ⟨j, x, rfl, hx, hxm⟩
    · have HNO := Lib.hid (vd.not_has HP.out hno)
      clear hno
      have HEQ : Hid (vd.delete ⟨c, D, off, left, keep⟩ m = _) := Lib.hid (vd.there_no HEN.out HNO.out)
      have HRET := Lib.hid (HD4.out.ret c (.slice A n cc) off left keep)
      go_wp2_with fail
      refine bodyPost_ret (results_c1t rfl _ _ r _ _ (0, 0) _ rfl HRET.out.1 Tryd.underlying45 rfl rd_dsize) rfl ?_
      rw [HEQ.out]
      exact ⟨_, rfl, HRD.out _ HRET.out.2, HRET.out.2⟩
    · have HX := Lib.hid (vd.is_there HP.out HOK.out.nod hx hxm)
      have HEQ : Hid (vd.delete ⟨c, D, off, left, keep⟩ m = _) := Lib.hid (vd.there_yes HEN.out HX.out.1)
      clear hx hxm
      obtain ⟨W5, hW5⟩ : ∃ W5, w4.alloc (.cells #[.int .i64 (c : Int), .slice A n cc, .bool off, .int .i64 (left : Int), .int .i64 keep] 45) = W5 := ⟨_, rfl⟩
      have hb5 : Below w4.heap.size w4 W5 := by rw [← hW5]; exact (Below.refl _ w4).alloc (Nat.le_refl _) _
      have HD5 := Lib.hid (HD4.out.later hb5)
      have hg5 : Vb W5 w4.heap.size (rdC c (.slice A n cc) off left keep) 45 := by rw [← hW5]; exact Vb.new w4 _ _
      have hgs : W5.heap.size = w4.heap.size + 1 := by rw [← hW5]; exact Array.size_push _
      obtain ⟨g, hg⟩ : ∃ x, w4.heap.size = x := ⟨_, rfl⟩
      rw [hg] at hg5 hgs
      have hrg : r < g := by rw [← hg]; exact HD4.out.res.lt
      have HG5 := Lib.hid hg5
      have HGS := Lib.hid hgs
      have HHG := Lib.hid hg
      have ngb : ¬ g = b := by have := HD5.out.hr; omega
      have nbg : ¬ b = g := by omega
      have ngr : ¬ g = r := by omega
      have nrg : ¬ r = g := by omega
      clear hb5 hg5 hgs y0 y1 y2 y3 y4 s0 s1 s2 s3 s4
      obtain ⟨p0b, p1b, p2b, p3b, p4b, z0b, z1b, z2b, z3b, z4b⟩ := HD5.out.one.five
      have hwi := rd_without (w := W5) m (HLL.out _ HD5.out.below) HN.out hln
      unfold keyV at hwi
      go_wp2_with fail
      refine hwi.mono ?_
      rintro e w6 ⟨v6, rfl, ho6, b6⟩
      have hM6 := vd.del_perm HP.out HOK.out.nod m
      have hl6 := List.length_filter_le (fun x : vd.Name × vd.File => decide (x.1 ≠ m)) L
      obtain ⟨M, hM⟩ : ∃ M, L.filter (fun x => decide (x.1 ≠ m)) = M := ⟨_, rfl⟩
      rw [hM] at ho6 hM6 hl6
      obtain ⟨A6, c6, rfl⟩ := ho6.form
      obtain ⟨m6, hm6⟩ : ∃ x, M.length = x := ⟨_, rfl⟩
      rw [hm6] at ho6 ⊢
      have HM6 := Lib.hid hm6
      clear hm6 hM hl6
      have HD6 := Lib.hid (HD5.out.later b6)
      have hg6 := HG5.out.below b6
      obtain ⟨u0, u1, u2, u3, u4, t0, t1, t2, t3, t4⟩ := hg6.five
      have hg7 := hg6.set 1 (.slice A6 (m6) c6)
      have ho7 := ownsRow_setCell_below ho6 (a := ⟨g, 1, none⟩) (by show g < W5.heap.size; rw [HGS.out]; omega) (.slice A6 (m6) c6)
      have hdb7 : DB w (w6.setCell ⟨g, 1, none⟩ (.slice A6 (m6) c6)) b r (rdC c (.slice A n cc) off left keep) :=
        ⟨HD6.out.below.setCell (p := ⟨g, 1, none⟩) (by show w.heap.size ≤ g; have := HD6.out.hb; have := HD6.out.hr; omega) _, HD6.out.hb, HD6.out.hr, HD6.out.one.apart (Apart.setCell _ _ _ _) (by simp; omega), HD6.out.res.apart (Apart.setCell _ _ _ _) (by simp; omega)⟩
      obtain ⟨X7, hX7⟩ : ∃ X7, w6.setCell ⟨g, 1, none⟩ (.slice A6 (m6) c6) = X7 := ⟨_, rfl⟩
      rw [hX7] at hg7 ho7 hdb7
      have HD7 := Lib.hid hdb7
      have HG7 := Lib.hid hg7
      have HO7B := Lib.hid ho7
      have HO7 := Lib.hid (owns_mono ho7 (Nat.zero_le _))
      clear p0b p1b p2b p3b p4b z0b z1b z2b z3b z4b hg6 ho7 hdb7 ho6 b6
      obtain ⟨p0, p1, p2, p3, p4, z0, z1, z2, z3, z4⟩ := HD7.out.one.five
      obtain ⟨v0, v1, v2, v3, v4, x0, x1, x2, x3, x4⟩ := hg7.five
      clear hg7
      have HMP : Hid (M.Perm (vd.del D m)) := Lib.hid hM6
      have HMT := Lib.hid (tidy_of (d := ⟨c, vd.del D m, off, left, keep⟩) (vd.ok_del HOK.out m) (by show (vd.del D m).length ≤ 1000; have := (vd.del_sub D m).length_le; have := HF.out; omega) HMP.out)
      have hdn := rd_done (w := X7) (c := c) (n := n) (cc := cc) (off := off) (left := left) (keep := keep) (L := L) (B := A6) (m := m6) (dd := c6) (M := M) false (HLL.out _ HD7.out.below) HN.out HO7.out HM6.out HTL.out HMT.out hlf
      unfold rdV at hdn
      clear hwi hM6
      go_wp2_with fail
      refine hdn.mono ?_
      rintro e w9 ⟨v9, rfl, ho9, b9⟩
      obtain ⟨A9, c9, rfl⟩ := ho9.form
      have hto := rd_done_to (a := false) HP.out HMP.out ho9
      obtain ⟨n9, hn9⟩ : ∃ x, (vd.done ⟨c, L, off, left, keep⟩ M false).files.length = x := ⟨_, rfl⟩
      rw [hn9] at hto ⊢
      obtain ⟨⟨k0, F0, o0, l0, q0⟩, hd0⟩ : ∃ x, vd.done ⟨c, L, off, left, keep⟩ M false = x := ⟨_, rfl⟩
      rw [hd0] at hto ⊢
      have hag : ∀ v, rdD ⟨k0, F0, o0, l0, q0⟩ v = .agg #[.int .i64 (k0 : Int), v, .bool o0, .int .i64 (l0 : Int), .int .i64 q0] := fun v => rfl
      have hde : vd.doneE ⟨c, L, off, left, keep⟩ = vd.doneE ⟨c, D, off, left, keep⟩ := rfl
      rw [hde]
      obtain ⟨e9, he9⟩ : ∃ x, vd.doneE ⟨c, D, off, left, keep⟩ = x := ⟨_, rfl⟩
      rw [he9, hag]
      have HD9 := Lib.hid (HD7.out.later b9)
      have HTO := Lib.hid (hto.put HD9.out.res k0 (.slice A9 n9 c9) o0 l0 q0)
      have HE9 := Lib.hid he9
      have HRET := Lib.hid (HD9.out.ret k0 (.slice A9 n9 c9) o0 l0 q0)
      clear hdn ho9 b9 hto hn9 hd0 hag hde he9
      obtain ⟨y0i, y1i, y2i, y3i, y4i, s0i, s1i, s2i, s3i, s4i⟩ := HD9.out.res.five
      go_wp2_with fail
      refine bodyPost_ret (results_c1t rfl _ _ r _ _ (0, 0) _ rfl HRET.out.1 Tryd.underlying45 rfl rd_dsize) rfl ?_
      rw [HEQ.out]
      refine ⟨_, ?_, HTO.out, HRET.out.2⟩
      rw [← HE9.out]; rfl
  · have HEQ : Hid (vd.delete ⟨c, D, off, left, keep⟩ m = _) := Lib.hid (vd.there_err HEN.out h0)
    have e0 : ¬ (en : Int) = 0 := by omega
    have HRET := Lib.hid (HD3.out.ret c (.slice A n cc) off left keep)
    go_wp2_with fail
    refine bodyPost_ret (results_c1t rfl _ _ r _ _ (0, 0) _ rfl HRET.out.1 Tryd.underlying45 rfl rd_dsize) rfl ?_
    rw [HEQ.out]
    exact ⟨_, rfl, HRD.out _ HRET.out.2, HRET.out.2⟩
end
end
section
open Go Go.RowKit
set_option maxRecDepth 100000

section
variable {w : World} {c cc n left : Nat} {A : Option Addr} {off : Bool} {keep : Int} {L D : vd.Files}
set_option maxHeartbeats 16000000 in
theorem rd_sync (m : vd.Name) (hm : m.length ≤ maxLen) (hL : FRow w 0 (.slice A n cc) L) (hn : L.length = n) (hp : L.Perm D) (hok : vd.Ok ⟨c, D, off, left, keep⟩) (hf : D.length ≤ 200) :
    Calls Tryd.prog 48 #[rdV c (.slice A n cc) off left keep, keyV m] w (RdTo w (vd.sync ⟨c, D, off, left, keep⟩ m)) := by
  obtain ⟨W, hW⟩ : ∃ W, w.alloc (.cells #[.int .i64 (c : Int), .slice A n cc, .bool off, .int .i64 (left : Int), .int .i64 keep] 45) = W := ⟨_, rfl⟩
  obtain ⟨W2, hW2⟩ : ∃ W2, W.alloc (.cells #[.int .i64 0, .slice none 0 0, .bool false, .int .i64 0, .int .i64 0] 45) = W2 := ⟨_, rfl⟩
  have hdb : DB w W2 w.heap.size W.heap.size (rdC c (.slice A n cc) off left keep) := by rw [← hW2, ← hW]; exact DB.new w _
  obtain ⟨b, hb⟩ : ∃ x, w.heap.size = x := ⟨_, rfl⟩
  obtain ⟨r, hr⟩ : ∃ x, W.heap.size = x := ⟨_, rfl⟩
  rw [hb, hr] at hdb
  have hbr : ¬ b = r := by have := hdb.hr; omega
  have hrb : ¬ r = b := by omega
  have HLL : Hid (∀ w', Below w.heap.size w w' → FRow w' 0 (.slice A n cc) L) := Lib.hid fun w' h => owns_below hL h
  have HRD : Hid (∀ w', Below w.heap.size w w' → Rd w' (rdV c (.slice A n cc) off left keep) ⟨c, D, off, left, keep⟩) := Lib.hid fun w' h => Rd.mk' (owns_below hL h) hn hp
  have HTL := Lib.hid (tidy_of hok (Nat.le_trans hf (by omega)) hp)
  have hln : n ≤ 1000 := by have := HTL.out.len; omega
  have hlf : left ≤ 9223372036854775807 := hok.lef
  have HN := Lib.hid hn
  have HP := Lib.hid hp
  have HOK := Lib.hid hok
  have HF := Lib.hid hf
  have HM := Lib.hid hm
  have HDB := Lib.hid hdb
  clear hdb
  clear hL hn hp hok hf
  obtain ⟨p0, p1, p2, p3, p4, z0, z1, z2, z3, z4⟩ := HDB.out.one.five
  have hw := rd_wrong (w := W2) (c := c) (off := off) (left := left) (keep := keep) (.slice A n cc) m HM.out
  obtain ⟨en, hen⟩ : ∃ en, vd.nameErr off [m] = en := ⟨_, rfl⟩
  rw [hen] at hw
  have HEN : Hid (vd.nameErr (vd.Disk.off ⟨c, D, off, left, keep⟩) [m] = en) := Lib.hid hen
  obtain ⟨i0, hi, hz0, hz1, hz2⟩ := info_parts info_rfile
  unfold rdV keyV at hw ⊢
  clear hm hen
  go_enter Tryd.func48, Tryd.ntmps48
  go_wp2_with fail
  refine hw.mono ?_
  rintro e w3 ⟨rfl, b3⟩
  have HD3 := Lib.hid (HDB.out.later b3)
  clear p0 p1 p2 p3 p4 z0 z1 z2 z3 z4 hw b3
  obtain ⟨p0, p1, p2, p3, p4, z0, z1, z2, z3, z4⟩ := HD3.out.one.five
  obtain ⟨y0, y1, y2, y3, y4, s0, s1, s2, s3, s4⟩ := HD3.out.res.five
  have hfi := rd_find (w := w3) (c := c) (off := off) (left := left) (keep := keep) m (HLL.out _ HD3.out.below) HN.out hln
  unfold rdV keyV at hfi
  go_wp2_with fail
  refine hfi.mono ?_
  rintro e w4 ⟨i, rfl, b4, hfd⟩
  have HD4 := Lib.hid (HD3.out.later b4)
  clear p0 p1 p2 p3 p4 z0 z1 z2 z3 z4 y0 y1 y2 y3 y4 s0 s1 s2 s3 s4 hfi b4
  obtain ⟨p0, p1, p2, p3, p4, z0, z1, z2, z3, z4⟩ := HD4.out.one.five
  obtain ⟨y0, y1, y2, y3, y4, s0, s1, s2, s3, s4⟩ := HD4.out.res.five
  by_cases h0 : en = 0
  · subst h0
    rcases hfd with ⟨rfl, hno⟩ | ⟨j, x, rfl, hx, hxm⟩
    · have HNO := Lib.hid (vd.not_has HP.out hno)
      clear hno
      have HEQ : Hid (vd.sync ⟨c, D, off, left, keep⟩ m = _) := Lib.hid (vd.there_no HEN.out HNO.out)
      have HRET := Lib.hid (HD4.out.ret c (.slice A n cc) off left keep)
      go_wp2_with fail
      refine bodyPost_ret (results_c1t rfl _ _ r _ _ (0, 0) _ rfl HRET.out.1 Tryd.underlying45 rfl rd_dsize) rfl ?_
      rw [HEQ.out]
      exact ⟨_, rfl, HRD.out _ HRET.out.2, HRET.out.2⟩
    · have HX := Lib.hid (vd.is_there HP.out HOK.out.nod hx hxm)
      have HEQ : Hid (vd.sync ⟨c, D, off, left, keep⟩ m = _) := Lib.hid (vd.there_yes HEN.out HX.out.1)
      have HXM := Lib.hid hxm
      clear hxm
      obtain ⟨W5, hW5⟩ : ∃ W5, w4.alloc (.cells #[.int .i64 (c : Int), .slice A n cc, .bool off, .int .i64 (left : Int), .int .i64 keep] 45) = W5 := ⟨_, rfl⟩
      have hb5 : Below w4.heap.size w4 W5 := by rw [← hW5]; exact (Below.refl _ w4).alloc (Nat.le_refl _) _
      have HD5 := Lib.hid (HD4.out.later hb5)
      have hg5 : Vb W5 w4.heap.size (rdC c (.slice A n cc) off left keep) 45 := by rw [← hW5]; exact Vb.new w4 _ _
      have hgs : W5.heap.size = w4.heap.size + 1 := by rw [← hW5]; exact Array.size_push _
      obtain ⟨g, hg⟩ : ∃ x, w4.heap.size = x := ⟨_, rfl⟩
      rw [hg] at hg5 hgs
      have hrg : r < g := by rw [← hg]; exact HD4.out.res.lt
      have HG5 := Lib.hid hg5
      have HGS := Lib.hid hgs
      have HHG := Lib.hid hg
      have ngb : ¬ g = b := by have := HD5.out.hr; omega
      have nbg : ¬ b = g := by omega
      have ngr : ¬ g = r := by omega
      have nrg : ¬ r = g := by omega
      clear hb5 hg5 hgs y0 y1 y2 y3 y4 s0 s1 s2 s3 s4
      obtain ⟨p0b, p1b, p2b, p3b, p4b, z0b, z1b, z2b, z3b, z4b⟩ := HD5.out.one.five
      obtain ⟨Wb, hWb⟩ : ∃ Wb, W5.alloc (.cells #[] 99) = Wb := ⟨_, rfl⟩
      have hbb : Below W5.heap.size W5 Wb := by rw [← hWb]; exact (Below.refl _ W5).alloc (Nat.le_refl _) _
      have hE : FRow Wb W5.heap.size (.slice (some ⟨W5.heap.size, 0, none⟩) 0 0) [] := by rw [← hWb]; exact FRow.empty W5
      have hcells : 0 < n → ∃ ad, A = some ad ∧ ∀ j u, (fcells L)[j]? = some u → Wb.cell? (ad.add j) = some u := by
        intro h0
        have hx := HLL.out Wb (HD5.out.below.trans (hbb.mono HD5.out.below.size))
        rcases hx.2 with ⟨e, _⟩ | ⟨g, cap, cur, e, _⟩
        · injection e with e1 e2 e3; have := HN.out; omega
        · injection e with e1 e2 e3
          subst e1
          exact ⟨_, rfl, hx.cells (g := g) rfl⟩
      obtain ⟨p0c, p1c, p2c, p3c, p4c, z0c, z1c, z2c, z3c, z4c⟩ := (HD5.out.later hbb).one.five
      have HBB := Lib.hid hbb
      have HE := Lib.hid hE
      have HC := Lib.hid hcells
      clear hbb hE hcells
      go_wp2_with (at_builtin; refine wpList_app_opt _ rfl _ _ 43 rfl W5.heap.size 99 i0 _ 3 40 Tryd.underlying43 hi hz0 hz1 hz2 rfl (by decide) _ _ _ rfl HE.out A n cc (fcells L) rfl ?c1 ?c2 ?c3 ?c4 ?c5 ?c6 ?_)
      case c1 => rw [fcells_len, HN.out]
      case c2 => exact HC.out
      case c3 => exact fcells_one L
      case c4 => unfold maxLen; first | omega | (simp; omega)
      case c5 => first | omega | (simp; omega)
      case c6 => exact HBB.out.size
      intro v6 w6 own6 hgr
      have ho6 : w6.ownsRow W5.heap.size 99 3 v6 n (fcells L) := by
        have h := own6
        simp only [fcells, List.flatMap_nil, List.nil_append] at h
        exact h
      obtain ⟨A6, c6, rfl⟩ : ∃ A c, v6 = .slice A n c := by
        rcases ho6.2 with ⟨rfl, h0⟩ | ⟨g, cap, cur, rfl, _⟩
        · exact ⟨none, 0, by rw [h0]⟩
        · exact ⟨_, _, rfl⟩
      have b6 : Below W5.heap.size W5 w6 := HBB.out.grown hgr HBB.out.size (fun j hj => by cases hj; exact Nat.le_refl _)
      clear own6 hgr p0c p1c p2c p3c p4c z0c z1c z2c z3c z4c
      have HD6 := Lib.hid (HD5.out.later b6)
      have hg6 := HG5.out.below b6
      obtain ⟨u0, u1, u2, u3, u4, t0, t1, t2, t3, t4⟩ := hg6.five
      have hg7 := hg6.set 1 (.slice A6 (n) c6)
      have ho7 := ownsRow_setCell_below ho6 (a := ⟨g, 1, none⟩) (by show g < W5.heap.size; rw [HGS.out]; omega) (.slice A6 (n) c6)
      have hdb7 : DB w (w6.setCell ⟨g, 1, none⟩ (.slice A6 (n) c6)) b r (rdC c (.slice A n cc) off left keep) :=
        ⟨HD6.out.below.setCell (p := ⟨g, 1, none⟩) (by show w.heap.size ≤ g; have := HD6.out.hb; have := HD6.out.hr; omega) _, HD6.out.hb, HD6.out.hr, HD6.out.one.apart (Apart.setCell _ _ _ _) (by simp; omega), HD6.out.res.apart (Apart.setCell _ _ _ _) (by simp; omega)⟩
      obtain ⟨X7, hX7⟩ : ∃ X7, w6.setCell ⟨g, 1, none⟩ (.slice A6 (n) c6) = X7 := ⟨_, rfl⟩
      rw [hX7] at hg7 ho7 hdb7
      have HD7 := Lib.hid hdb7
      have HG7 := Lib.hid hg7
      have HO7B := Lib.hid ho7
      have HO7 := Lib.hid (owns_mono ho7 (Nat.zero_le _))
      clear p0b p1b p2b p3b p4b z0b z1b z2b z3b z4b hg6 ho7 hdb7 ho6 b6
      obtain ⟨p0, p1, p2, p3, p4, z0, z1, z2, z3, z4⟩ := HD7.out.one.five
      obtain ⟨v0, v1, v2, v3, v4, x0, x1, x2, x3, x4⟩ := hg7.five
      clear hg7
      obtain ⟨gg, rfl, hgb, k0, k1, k2, kf⟩ := row3 HO7B.out j x hx
      have hjn : j < n := by
        rcases Nat.lt_or_ge j n with h | h
        · exact h
        · rw [List.getElem?_eq_none (by rw [HN.out]; exact h)] at hx; cases hx
      have hsx : (crcm.mk x.2.1).size = x.2.1.length := crcm.mk_size _
      have f1 := kf (j * 3 + 1)
      have f2 := kf (j * 3 + 2)
      have HGB := Lib.hid hgb
      obtain ⟨M, hM⟩ : ∃ M, L.set j (x.1, x.2.1, x.2.1.length) = M := ⟨_, rfl⟩
      have hM6 := vd.set_put (x.2.1, x.2.1.length) HP.out HOK.out.nod hx
      have hcs := fcells_set2 hx x.2.1.length
      rw [hM] at hM6 hcs
      have hml : M.length = n := by rw [← hM, List.length_set, HN.out]
      have HM6 := Lib.hid hml
      have HCS := Lib.hid hcs
      have HMP0 := Lib.hid hM6
      have HEQ2 : Hid (vd.sync ⟨c, D, off, left, keep⟩ m = (vd.done ⟨c, D, off, left, keep⟩ (vd.put D m (x.2.1, x.2.1.length)) false, vd.doneE ⟨c, D, off, left, keep⟩)) := Lib.hid (by rw [HEQ.out]; show (vd.done _ (vd.put D m ((vd.at_ D m).1, (vd.at_ D m).1.length)) false, _) = _; rw [HX.out.2])
      clear kf hgb hM hM6 hcs hml
      go_wp2_with fail
      go_cut [] (fun wx => wx.ownsRow W5.heap.size 99 3 (.slice (some ⟨gg, 0, none⟩) n c6) n (fcells M) ∧ Below W5.heap.size X7 wx)
      case first =>
        go_region
        all_goals
          go_wp2_with fail
          go_meet
          exact ⟨by rw [← HCS.out]; exact ((HO7B.out.stored (j * 3 + 2) _).1).drew, below_drewN ((Below.refl _ X7).setCell (p := ⟨gg, j * 3 + 2, none⟩) HGB.out _) 1⟩
      case rest =>
        obtain ⟨ho8, hb8⟩ := hcut
        have HSZ : Hid (r < W5.heap.size ∧ g < W5.heap.size ∧ w.heap.size ≤ W5.heap.size) := Lib.hid ⟨by have := HGS.out; omega, by have := HGS.out; omega, HD5.out.below.size⟩
        have HD8 := Lib.hid (HD7.out.low hb8 HSZ.out.1 HSZ.out.2.2)
        have hg8 : Vb wc g (rdC c (.slice (some ⟨gg, 0, none⟩) n c6) off left keep) 45 := (hb8.block g HSZ.out.2.1).trans HG7.out
        have HO8 : Hid (FRow wc 0 (.slice (some ⟨gg, 0, none⟩) n c6) M) := Lib.hid (by unfold FRow; rw [HM6.out]; exact owns_mono ho8 (Nat.zero_le _))
        clear p0 p1 p2 p3 p4 z0 z1 z2 z3 z4 v0 v1 v2 v3 v4 x0 x1 x2 x3 x4 k0 k1 k2 f1 f2 ho8 hb8
        obtain ⟨p0, p1, p2, p3, p4, z0, z1, z2, z3, z4⟩ := HD8.out.one.five
        obtain ⟨v0, v1, v2, v3, v4, x0, x1, x2, x3, x4⟩ := hg8.five
        clear hg8
        have HMP : Hid (M.Perm (vd.put D m (x.2.1, x.2.1.length))) := Lib.hid (by have h := HMP0.out; rw [HXM.out] at h; exact h)
        have HMT := Lib.hid (tidy_of (d := ⟨c, vd.put D m (x.2.1, x.2.1.length), off, left, keep⟩) (vd.ok_syn HOK.out HEN.out HX.out.2) (by show (vd.put D m _).length ≤ 1000; rw [vd.put_len2]; have := HF.out; split <;> omega) HMP.out)
        have hdn := rd_done (w := wc) (c := c) (n := n) (cc := cc) (off := off) (left := left) (keep := keep) (L := L) (B := (some ⟨gg, 0, none⟩)) (m := n) (dd := c6) (M := M) false (HLL.out _ HD8.out.below) HN.out HO8.out HM6.out HTL.out HMT.out hlf
        unfold rdV at hdn
        go_wp2_with fail
        refine hdn.mono ?_
        rintro e w9 ⟨v9, rfl, ho9, b9⟩
        obtain ⟨A9, c9, rfl⟩ := ho9.form
        have hto := rd_done_to (a := false) HP.out HMP.out ho9
        obtain ⟨n9, hn9⟩ : ∃ x, (vd.done ⟨c, L, off, left, keep⟩ M false).files.length = x := ⟨_, rfl⟩
        rw [hn9] at hto ⊢
        obtain ⟨⟨k0, F0, o0, l0, q0⟩, hd0⟩ : ∃ x, vd.done ⟨c, L, off, left, keep⟩ M false = x := ⟨_, rfl⟩
        rw [hd0] at hto ⊢
        have hag : ∀ v, rdD ⟨k0, F0, o0, l0, q0⟩ v = .agg #[.int .i64 (k0 : Int), v, .bool o0, .int .i64 (l0 : Int), .int .i64 q0] := fun v => rfl
        have hde : vd.doneE ⟨c, L, off, left, keep⟩ = vd.doneE ⟨c, D, off, left, keep⟩ := rfl
        rw [hde]
        obtain ⟨e9, he9⟩ : ∃ x, vd.doneE ⟨c, D, off, left, keep⟩ = x := ⟨_, rfl⟩
        rw [he9, hag]
        have HD9 := Lib.hid (HD8.out.later b9)
        have HTO := Lib.hid (hto.put HD9.out.res k0 (.slice A9 n9 c9) o0 l0 q0)
        have HE9 := Lib.hid he9
        have HRET := Lib.hid (HD9.out.ret k0 (.slice A9 n9 c9) o0 l0 q0)
        clear hdn ho9 b9 hto hn9 hd0 hag hde he9
        obtain ⟨y0i, y1i, y2i, y3i, y4i, s0i, s1i, s2i, s3i, s4i⟩ := HD9.out.res.five
        go_wp2_with fail
        refine bodyPost_ret (results_c1t rfl _ _ r _ _ (0, 0) _ rfl HRET.out.1 Tryd.underlying45 rfl rd_dsize) rfl ?_
        rw [HEQ2.out]
        refine ⟨_, ?_, HTO.out, HRET.out.2⟩
        rw [← HE9.out]; rfl
  · have HEQ : Hid (vd.sync ⟨c, D, off, left, keep⟩ m = _) := Lib.hid (vd.there_err HEN.out h0)
    have e0 : ¬ (en : Int) = 0 := by omega
    clear hfd
    have HRET := Lib.hid (HD4.out.ret c (.slice A n cc) off left keep)
    go_wp2_with fail
    refine bodyPost_ret (results_c1t rfl _ _ r _ _ (0, 0) _ rfl HRET.out.1 Tryd.underlying45 rfl rd_dsize) rfl ?_
    rw [HEQ.out]
    exact ⟨_, rfl, HRD.out _ HRET.out.2, HRET.out.2⟩
end
end
section
open Go Go.RowKit
set_option maxRecDepth 100000

section
variable {w : World} {c cc n left : Nat} {A : Option Addr} {off : Bool} {keep : Int} {L D : vd.Files}
set_option maxHeartbeats 16000000 in
theorem rd_append (m : vd.Name) (s : List UInt8) (hm : m.length ≤ maxLen) (hs : s.length ≤ 1000000000) (hne : vd.has D [] = false) (hL : FRow w 0 (.slice A n cc) L) (hn : L.length = n) (hp : L.Perm D) (hok : vd.Ok ⟨c, D, off, left, keep⟩) (hf : D.length ≤ 200) :
    Calls Tryd.prog 50 #[rdV c (.slice A n cc) off left keep, keyV m, .string (crcm.mk s)] w (RdTo w (vd.append ⟨c, D, off, left, keep⟩ m s)) := by
  obtain ⟨W, hW⟩ : ∃ W, w.alloc (.cells #[.int .i64 (c : Int), .slice A n cc, .bool off, .int .i64 (left : Int), .int .i64 keep] 45) = W := ⟨_, rfl⟩
  obtain ⟨W2, hW2⟩ : ∃ W2, W.alloc (.cells #[.int .i64 0, .slice none 0 0, .bool false, .int .i64 0, .int .i64 0] 45) = W2 := ⟨_, rfl⟩
  have hdb : DB w W2 w.heap.size W.heap.size (rdC c (.slice A n cc) off left keep) := by rw [← hW2, ← hW]; exact DB.new w _
  obtain ⟨b, hb⟩ : ∃ x, w.heap.size = x := ⟨_, rfl⟩
  obtain ⟨r, hr⟩ : ∃ x, W.heap.size = x := ⟨_, rfl⟩
  rw [hb, hr] at hdb
  have hbr : ¬ b = r := by have := hdb.hr; omega
  have hrb : ¬ r = b := by omega
  have HLL : Hid (∀ w', Below w.heap.size w w' → FRow w' 0 (.slice A n cc) L) := Lib.hid fun w' h => owns_below hL h
  have HRD : Hid (∀ w', Below w.heap.size w w' → Rd w' (rdV c (.slice A n cc) off left keep) ⟨c, D, off, left, keep⟩) := Lib.hid fun w' h => Rd.mk' (owns_below hL h) hn hp
  have HTL := Lib.hid (tidy_of hok (Nat.le_trans hf (by omega)) hp)
  have hln : n ≤ 1000 := by have := HTL.out.len; omega
  have hlf : left ≤ 9223372036854775807 := hok.lef
  have HN := Lib.hid hn
  have HP := Lib.hid hp
  have HOK := Lib.hid hok
  have HF := Lib.hid hf
  have HM := Lib.hid hm
  have HDB := Lib.hid hdb
  clear hdb
  clear hL hn hp hok hf
  have HSL := Lib.hid hs
  have HNE := Lib.hid hne
  clear hs hne
  obtain ⟨p0, p1, p2, p3, p4, z0, z1, z2, z3, z4⟩ := HDB.out.one.five
  have hw := rd_wrong (w := W2) (c := c) (off := off) (left := left) (keep := keep) (.slice A n cc) m HM.out
  obtain ⟨en, hen⟩ : ∃ en, vd.nameErr off [m] = en := ⟨_, rfl⟩
  rw [hen] at hw
  have HEN : Hid (vd.nameErr (vd.Disk.off ⟨c, D, off, left, keep⟩) [m] = en) := Lib.hid hen
  obtain ⟨i0, hi, hz0, hz1, hz2⟩ := info_parts info_rfile
  unfold rdV keyV at hw ⊢
  clear hm hen
  go_enter Tryd.func50, Tryd.ntmps50
  go_wp2_with fail
  refine hw.mono ?_
  rintro e w3 ⟨rfl, b3⟩
  have HD3 := Lib.hid (HDB.out.later b3)
  clear p0 p1 p2 p3 p4 z0 z1 z2 z3 z4 hw b3
  obtain ⟨p0, p1, p2, p3, p4, z0, z1, z2, z3, z4⟩ := HD3.out.one.five
  obtain ⟨y0, y1, y2, y3, y4, s0, s1, s2, s3, s4⟩ := HD3.out.res.five
  have hfi := rd_find (w := w3) (c := c) (off := off) (left := left) (keep := keep) m (HLL.out _ HD3.out.below) HN.out hln
  unfold rdV keyV at hfi
  go_wp2_with fail
  refine hfi.mono ?_
  rintro e w4 ⟨i, rfl, b4, hfd⟩
  have HD4 := Lib.hid (HD3.out.later b4)
  clear p0 p1 p2 p3 p4 z0 z1 z2 z3 z4 y0 y1 y2 y3 y4 s0 s1 s2 s3 s4 hfi b4
  obtain ⟨p0, p1, p2, p3, p4, z0, z1, z2, z3, z4⟩ := HD4.out.one.five
  obtain ⟨y0, y1, y2, y3, y4, s0, s1, s2, s3, s4⟩ := HD4.out.res.five
  by_cases h0 : en = 0
  · subst h0
    rcases hfd with ⟨rfl, hno⟩ | ⟨j, x, rfl, hx, hxm⟩
    · have HNO := Lib.hid (vd.not_has HP.out hno)
      clear hno
      have HEQ : Hid (vd.append ⟨c, D, off, left, keep⟩ m s = _) := Lib.hid ((vd.append_there (fun h => by rw [HNO.out] at h; cases h.1)).trans (vd.there_no (d := ⟨c, D, off, left, keep⟩) HEN.out HNO.out))
      have HRET := Lib.hid (HD4.out.ret c (.slice A n cc) off left keep)
      go_wp2_with fail
      refine bodyPost_ret (results_c1t rfl _ _ r _ _ (0, 0) _ rfl HRET.out.1 Tryd.underlying45 rfl rd_dsize) rfl ?_
      rw [HEQ.out]
      exact ⟨_, rfl, HRD.out _ HRET.out.2, HRET.out.2⟩
    · have HX := Lib.hid (vd.is_there HP.out HOK.out.nod hx hxm)
      have HXX := Lib.hid (And.intro hx hxm)
      clear hx hxm
      go_wp2_with fail
      have HTT : Hid (vd.total L ≤ 1000000000) := Lib.hid (by have h1 := HOK.out.tot; have h2 := HOK.out.cap; rw [vd.total_perm HP.out]; show vd.total D ≤ _; exact Nat.le_trans h1 h2)
      have hcap : c ≤ 1000000000 := HOK.out.cap
      have htt := HTT.out
      have hsl := HSL.out
      have hss : (crcm.mk s).size = s.length := crcm.mk_size _
      obtain ⟨T, hT⟩ : ∃ T, vd.total L = T := ⟨_, rfl⟩
      obtain ⟨sl, hsl2⟩ : ∃ x, s.length = x := ⟨_, rfl⟩
      rw [hT] at htt
      rw [hsl2] at hsl hss
      have MK : Hid (∀ w', Below w4.heap.size w4 w' → w'.cell? ⟨b, 0, none⟩ = some (.int .i64 (c : Int)) ∧ w'.cell? ⟨b, 1, none⟩ = some (.slice A n cc) ∧ w'.cell? ⟨b, 2, none⟩ = some (.bool off) ∧ w'.cell? ⟨b, 3, none⟩ = some (.int .i64 (left : Int)) ∧ w'.cell? ⟨b, 4, none⟩ = some (.int .i64 keep)) := Lib.hid fun w' h => by
        obtain ⟨a0, a1, a2, a3, a4, _⟩ := (HD4.out.later h).one.five
        exact ⟨a0, a1, a2, a3, a4⟩
      have hW : Below w4.heap.size w4 w4.drew := below_drewN (Below.refl _ w4) 1
      have HT := Lib.hid hT
      have HSE := Lib.hid hsl2
      clear hT hsl2
      have hT2 : IntKind.i64.wrap ((T : Int) + (sl : Int)) = (T : Int) + sl := by rw [IntKind.wrap_i64]; omega
      have hbw := HD4.out.below
      have HBW := Lib.hid hbw
      clear hbw y0 y1 y2 y3 y4 s0 s1 s2 s3 s4
      go_cut [31] (fun s31 wx => s31 = .bool (decide ((c : Int) < (T : Int) + (sl : Int))) ∧ Below w4.heap.size w4 wx)
      case first =>
        go_region_held3 (fun w' => w'.cell? ⟨b, 0, none⟩ = some (.int .i64 (c : Int)) ∧ w'.cell? ⟨b, 1, none⟩ = some (.slice A n cc) ∧ w'.cell? ⟨b, 2, none⟩ = some (.bool off) ∧ w'.cell? ⟨b, 3, none⟩ = some (.int .i64 (left : Int)) ∧ w'.cell? ⟨b, 4, none⟩ = some (.int .i64 keep))
          (exact MK.out _ hW)
          (first | (go_at_call 53; refine (rd_size_ (HLL.out _ (HBW.out.trans (hW.mono HBW.out.size))) HN.out hln HTT.out).mono ?_; rw [HT.out]; rintro e w5 ⟨rfl, hb⟩; have hW := hW.trans (hb.mono hW.size)))
        all_goals
          go_wp2_with fail
          go_meet
          exact ⟨by simp, hW⟩
      case rest =>
        obtain ⟨rfl, hWc⟩ := hcut
        have HDc := Lib.hid (HD4.out.later hWc)
        clear hW p0 p1 p2 p3 p4 z0 z1 z2 z3 z4
        clear hWc
        obtain ⟨p0, p1, p2, p3, p4, z0, z1, z2, z3, z4⟩ := HDc.out.one.five
        obtain ⟨y0, y1, y2, y3, y4, s0, s1, s2, s3, s4⟩ := HDc.out.res.five
        by_cases hfull : c < T + sl
        · have i2 : (c : Int) < (T : Int) + (sl : Int) := by omega
          have HEQ : Hid (vd.append ⟨c, D, off, left, keep⟩ m s = _) := Lib.hid (vd.append_full HEN.out HX.out.1 (by show c < vd.total D + s.length; rw [← vd.total_perm HP.out, HT.out, HSE.out]; exact hfull))
          have HRET := Lib.hid (HDc.out.ret c (.slice A n cc) off left keep)
          go_wp2_with fail
          refine bodyPost_ret (results_c1t rfl _ _ r _ _ (0, 0) _ rfl HRET.out.1 Tryd.underlying45 rfl rd_dsize) rfl ?_
          rw [HEQ.out]
          exact ⟨_, rfl, HRD.out _ HRET.out.2, HRET.out.2⟩
        · have i2 : ¬ (c : Int) < (T : Int) + (sl : Int) := by omega
          have HFU : Hid (vd.total D + s.length ≤ c) := Lib.hid (by rw [← vd.total_perm HP.out, HT.out, HSE.out]; omega)
          have HEQ : Hid (vd.append ⟨c, D, off, left, keep⟩ m s = _) := Lib.hid ((vd.append_there (fun h => by have h1 : c < vd.total D + s.length := h.2.2; have := HFU.out; omega)).trans (vd.there_yes (d := ⟨c, D, off, left, keep⟩) HEN.out HX.out.1))
          obtain ⟨hx, hxm⟩ := HXX.out
          have HXM := Lib.hid hxm
          clear hxm hT2 hss hsl htt hcap
          obtain ⟨W5, hW5⟩ : ∃ W5, wc.alloc (.cells #[.int .i64 (c : Int), .slice A n cc, .bool off, .int .i64 (left : Int), .int .i64 keep] 45) = W5 := ⟨_, rfl⟩
          have hb5 : Below wc.heap.size wc W5 := by rw [← hW5]; exact (Below.refl _ wc).alloc (Nat.le_refl _) _
          have HD5 := Lib.hid (HDc.out.later hb5)
          have hg5 : Vb W5 wc.heap.size (rdC c (.slice A n cc) off left keep) 45 := by rw [← hW5]; exact Vb.new wc _ _
          have hgs : W5.heap.size = wc.heap.size + 1 := by rw [← hW5]; exact Array.size_push _
          obtain ⟨g, hg⟩ : ∃ x, wc.heap.size = x := ⟨_, rfl⟩
          rw [hg] at hg5 hgs
          have hrg : r < g := by rw [← hg]; exact HDc.out.res.lt
          have HG5 := Lib.hid hg5
          have HGS := Lib.hid hgs
          have HHG := Lib.hid hg
          have ngb : ¬ g = b := by have := HD5.out.hr; omega
          have nbg : ¬ b = g := by omega
          have ngr : ¬ g = r := by omega
          have nrg : ¬ r = g := by omega
          clear hb5 hg5 hgs y0 y1 y2 y3 y4 s0 s1 s2 s3 s4
          obtain ⟨p0b, p1b, p2b, p3b, p4b, z0b, z1b, z2b, z3b, z4b⟩ := HD5.out.one.five
          obtain ⟨Wb, hWb⟩ : ∃ Wb, W5.alloc (.cells #[] 99) = Wb := ⟨_, rfl⟩
          have hbb : Below W5.heap.size W5 Wb := by rw [← hWb]; exact (Below.refl _ W5).alloc (Nat.le_refl _) _
          have hE : FRow Wb W5.heap.size (.slice (some ⟨W5.heap.size, 0, none⟩) 0 0) [] := by rw [← hWb]; exact FRow.empty W5
          have hcells : 0 < n → ∃ ad, A = some ad ∧ ∀ j u, (fcells L)[j]? = some u → Wb.cell? (ad.add j) = some u := by
            intro h0
            have hx := HLL.out Wb (HD5.out.below.trans (hbb.mono HD5.out.below.size))
            rcases hx.2 with ⟨e, _⟩ | ⟨g, cap, cur, e, _⟩
            · injection e with e1 e2 e3; have := HN.out; omega
            · injection e with e1 e2 e3
              subst e1
              exact ⟨_, rfl, hx.cells (g := g) rfl⟩
          obtain ⟨p0c, p1c, p2c, p3c, p4c, z0c, z1c, z2c, z3c, z4c⟩ := (HD5.out.later hbb).one.five
          have HBB := Lib.hid hbb
          have HE := Lib.hid hE
          have HC := Lib.hid hcells
          clear hbb hE hcells
          go_wp2_with (at_builtin; refine wpList_app_opt _ rfl _ _ 43 rfl W5.heap.size 99 i0 _ 3 40 Tryd.underlying43 hi hz0 hz1 hz2 rfl (by decide) _ _ _ rfl HE.out A n cc (fcells L) rfl ?c1 ?c2 ?c3 ?c4 ?c5 ?c6 ?_)
          case c1 => rw [fcells_len, HN.out]
          case c2 => exact HC.out
          case c3 => exact fcells_one L
          case c4 => unfold maxLen; first | omega | (simp; omega)
          case c5 => first | omega | (simp; omega)
          case c6 => exact HBB.out.size
          intro v6 w6 own6 hgr
          have ho6 : w6.ownsRow W5.heap.size 99 3 v6 n (fcells L) := by
            have h := own6
            simp only [fcells, List.flatMap_nil, List.nil_append] at h
            exact h
          obtain ⟨A6, c6, rfl⟩ : ∃ A c, v6 = .slice A n c := by
            rcases ho6.2 with ⟨rfl, h0⟩ | ⟨g, cap, cur, rfl, _⟩
            · exact ⟨none, 0, by rw [h0]⟩
            · exact ⟨_, _, rfl⟩
          have b6 : Below W5.heap.size W5 w6 := HBB.out.grown hgr HBB.out.size (fun j hj => by cases hj; exact Nat.le_refl _)
          clear own6 hgr p0c p1c p2c p3c p4c z0c z1c z2c z3c z4c
          have HD6 := Lib.hid (HD5.out.later b6)
          have hg6 := HG5.out.below b6
          obtain ⟨u0, u1, u2, u3, u4, t0, t1, t2, t3, t4⟩ := hg6.five
          have hg7 := hg6.set 1 (.slice A6 (n) c6)
          have ho7 := ownsRow_setCell_below ho6 (a := ⟨g, 1, none⟩) (by show g < W5.heap.size; rw [HGS.out]; omega) (.slice A6 (n) c6)
          have hdb7 : DB w (w6.setCell ⟨g, 1, none⟩ (.slice A6 (n) c6)) b r (rdC c (.slice A n cc) off left keep) :=
            ⟨HD6.out.below.setCell (p := ⟨g, 1, none⟩) (by show w.heap.size ≤ g; have := HD6.out.hb; have := HD6.out.hr; omega) _, HD6.out.hb, HD6.out.hr, HD6.out.one.apart (Apart.setCell _ _ _ _) (by simp; omega), HD6.out.res.apart (Apart.setCell _ _ _ _) (by simp; omega)⟩
          obtain ⟨X7, hX7⟩ : ∃ X7, w6.setCell ⟨g, 1, none⟩ (.slice A6 (n) c6) = X7 := ⟨_, rfl⟩
          rw [hX7] at hg7 ho7 hdb7
          have HD7 := Lib.hid hdb7
          have HG7 := Lib.hid hg7
          have HO7B := Lib.hid ho7
          have HO7 := Lib.hid (owns_mono ho7 (Nat.zero_le _))
          clear p0b p1b p2b p3b p4b z0b z1b z2b z3b z4b hg6 ho7 hdb7 ho6 b6
          obtain ⟨p0, p1, p2, p3, p4, z0, z1, z2, z3, z4⟩ := HD7.out.one.five
          obtain ⟨v0, v1, v2, v3, v4, x0, x1, x2, x3, x4⟩ := hg7.five
          clear hg7
          obtain ⟨gg, rfl, hgb, k0, k1, k2, kf⟩ := row3 HO7B.out j x hx
          have hjn : j < n := by
            rcases Nat.lt_or_ge j n with h | h
            · exact h
            · rw [List.getElem?_eq_none (by rw [HN.out]; exact h)] at hx; cases hx
          have hsx : (crcm.mk x.2.1).size = x.2.1.length := crcm.mk_size _
          have f1 := kf (j * 3 + 1)
          have f2 := kf (j * 3 + 2)
          have HGB := Lib.hid hgb
          obtain ⟨M, hM⟩ : ∃ M, L.set j (x.1, x.2.1 ++ s, x.2.2) = M := ⟨_, rfl⟩
          have hM6 := vd.set_put (x.2.1 ++ s, x.2.2) HP.out HOK.out.nod hx
          have hcs := fcells_set1 hx (x.2.1 ++ s)
          rw [hM] at hM6 hcs
          have hml : M.length = n := by rw [← hM, List.length_set, HN.out]
          have HM6 := Lib.hid hml
          have HCS := Lib.hid hcs
          have HMP0 := Lib.hid hM6
          have HEQ2 : Hid (vd.append ⟨c, D, off, left, keep⟩ m s = (vd.done ⟨c, D, off, left, keep⟩ (vd.put D m (x.2.1 ++ s, x.2.2)) true, vd.doneE ⟨c, D, off, left, keep⟩)) := Lib.hid (by rw [HEQ.out]; show (vd.done _ (vd.put D m ((vd.at_ D m).1 ++ s, (vd.at_ D m).2)) true, _) = _; rw [HX.out.2])
          have hcat : crcm.mk x.2.1 ++ crcm.mk s = crcm.mk (x.2.1 ++ s) := crcm.mk_append _ _
          have hsum : ¬ 9223372036854775807 < x.2.1.length + s.length := by have h1 := HTL.out.low x (List.mem_of_getElem? hx); have := HSL.out; omega
          have hss : (crcm.mk s).size = s.length := crcm.mk_size _
          clear kf hgb hM hM6 hcs hml
          go_wp2_with fail
          go_cut [] (fun wx => wx.ownsRow W5.heap.size 99 3 (.slice (some ⟨gg, 0, none⟩) n c6) n (fcells M) ∧ Below W5.heap.size X7 wx)
          case first =>
            go_region
            all_goals
              go_wp2_with fail
              go_meet
              exact ⟨by rw [← HCS.out]; exact ((HO7B.out.stored (j * 3 + 1) _).1).drew, below_drewN ((Below.refl _ X7).setCell (p := ⟨gg, j * 3 + 1, none⟩) HGB.out _) 1⟩
          case rest =>
            obtain ⟨ho8, hb8⟩ := hcut
            have HSZ : Hid (r < W5.heap.size ∧ g < W5.heap.size ∧ w.heap.size ≤ W5.heap.size) := Lib.hid ⟨by have := HGS.out; omega, by have := HGS.out; omega, HD5.out.below.size⟩
            have HD8 := Lib.hid (HD7.out.low hb8 HSZ.out.1 HSZ.out.2.2)
            have hg8 : Vb wc g (rdC c (.slice (some ⟨gg, 0, none⟩) n c6) off left keep) 45 := (hb8.block g HSZ.out.2.1).trans HG7.out
            have HO8 : Hid (FRow wc 0 (.slice (some ⟨gg, 0, none⟩) n c6) M) := Lib.hid (by unfold FRow; rw [HM6.out]; exact owns_mono ho8 (Nat.zero_le _))
            clear p0 p1 p2 p3 p4 z0 z1 z2 z3 z4 v0 v1 v2 v3 v4 x0 x1 x2 x3 x4 k0 k1 k2 f1 f2 ho8 hb8
            obtain ⟨p0, p1, p2, p3, p4, z0, z1, z2, z3, z4⟩ := HD8.out.one.five
            obtain ⟨v0, v1, v2, v3, v4, x0, x1, x2, x3, x4⟩ := hg8.five
            clear hg8
            have HMP : Hid (M.Perm (vd.put D m (x.2.1 ++ s, x.2.2))) := Lib.hid (by have h := HMP0.out; rw [HXM.out] at h; exact h)
            have HMT := Lib.hid (tidy_of (d := ⟨c, vd.put D m (x.2.1 ++ s, x.2.2), off, left, keep⟩) (vd.ok_app HOK.out HEN.out HX.out.2 HFU.out) (by show (vd.put D m _).length ≤ 1000; rw [vd.put_len2]; have := HF.out; split <;> omega) HMP.out)
            have hdn := rd_done (w := wc) (c := c) (n := n) (cc := cc) (off := off) (left := left) (keep := keep) (L := L) (B := (some ⟨gg, 0, none⟩)) (m := n) (dd := c6) (M := M) true (HLL.out _ HD8.out.below) HN.out HO8.out HM6.out HTL.out HMT.out hlf
            unfold rdV at hdn
            go_wp2_with fail
            refine hdn.mono ?_
            rintro e w9 ⟨v9, rfl, ho9, b9⟩
            obtain ⟨A9, c9, rfl⟩ := ho9.form
            have hto := rd_done_to (a := true) HP.out HMP.out ho9
            obtain ⟨n9, hn9⟩ : ∃ x, (vd.done ⟨c, L, off, left, keep⟩ M true).files.length = x := ⟨_, rfl⟩
            rw [hn9] at hto ⊢
            obtain ⟨⟨k0, F0, o0, l0, q0⟩, hd0⟩ : ∃ x, vd.done ⟨c, L, off, left, keep⟩ M true = x := ⟨_, rfl⟩
            rw [hd0] at hto ⊢
            have hag : ∀ v, rdD ⟨k0, F0, o0, l0, q0⟩ v = .agg #[.int .i64 (k0 : Int), v, .bool o0, .int .i64 (l0 : Int), .int .i64 q0] := fun v => rfl
            have hde : vd.doneE ⟨c, L, off, left, keep⟩ = vd.doneE ⟨c, D, off, left, keep⟩ := rfl
            rw [hde]
            obtain ⟨e9, he9⟩ : ∃ x, vd.doneE ⟨c, D, off, left, keep⟩ = x := ⟨_, rfl⟩
            rw [he9, hag]
            have HD9 := Lib.hid (HD8.out.later b9)
            have HTO := Lib.hid (hto.put HD9.out.res k0 (.slice A9 n9 c9) o0 l0 q0)
            have HE9 := Lib.hid he9
            have HRET := Lib.hid (HD9.out.ret k0 (.slice A9 n9 c9) o0 l0 q0)
            clear hdn ho9 b9 hto hn9 hd0 hag hde he9
            obtain ⟨y0i, y1i, y2i, y3i, y4i, s0i, s1i, s2i, s3i, s4i⟩ := HD9.out.res.five
            go_wp2_with fail
            refine bodyPost_ret (results_c1t rfl _ _ r _ _ (0, 0) _ rfl HRET.out.1 Tryd.underlying45 rfl rd_dsize) rfl ?_
            rw [HEQ2.out]
            refine ⟨_, ?_, HTO.out, HRET.out.2⟩
            rw [← HE9.out]; rfl
  · have HEQ : Hid (vd.append ⟨c, D, off, left, keep⟩ m s = _) := Lib.hid ((vd.append_there (fun h => h0 (HEN.out.symm.trans (vd.err_good HOK.out HNE.out h.1 h.2.1)))).trans (vd.there_err (d := ⟨c, D, off, left, keep⟩) HEN.out h0))
    have e0 : ¬ (en : Int) = 0 := by omega
    clear hfd
    have HRET := Lib.hid (HD4.out.ret c (.slice A n cc) off left keep)
    go_wp2_with fail
    refine bodyPost_ret (results_c1t rfl _ _ r _ _ (0, 0) _ rfl HRET.out.1 Tryd.underlying45 rfl rd_dsize) rfl ?_
    rw [HEQ.out]
    exact ⟨_, rfl, HRD.out _ HRET.out.2, HRET.out.2⟩
end
end
section
open Go Go.RowKit
set_option maxRecDepth 100000

section
variable {w : World} {c cc n left : Nat} {A : Option Addr} {off : Bool} {keep : Int} {L D : vd.Files}
set_option maxHeartbeats 16000000 in
theorem rd_rename (m : vd.Name) (q : vd.Name) (hm : m.length ≤ maxLen) (hq : q.length ≤ maxLen) (hL : FRow w 0 (.slice A n cc) L) (hn : L.length = n) (hp : L.Perm D) (hok : vd.Ok ⟨c, D, off, left, keep⟩) (hf : D.length ≤ 200) :
    Calls Tryd.prog 78 #[rdV c (.slice A n cc) off left keep, keyV m, keyV q] w (RdTo w (vd.rename ⟨c, D, off, left, keep⟩ m q)) := by
  obtain ⟨W, hW⟩ : ∃ W, w.alloc (.cells #[.int .i64 (c : Int), .slice A n cc, .bool off, .int .i64 (left : Int), .int .i64 keep] 45) = W := ⟨_, rfl⟩
  obtain ⟨W2, hW2⟩ : ∃ W2, W.alloc (.cells #[.int .i64 0, .slice none 0 0, .bool false, .int .i64 0, .int .i64 0] 45) = W2 := ⟨_, rfl⟩
  have hdb : DB w W2 w.heap.size W.heap.size (rdC c (.slice A n cc) off left keep) := by rw [← hW2, ← hW]; exact DB.new w _
  obtain ⟨b, hb⟩ : ∃ x, w.heap.size = x := ⟨_, rfl⟩
  obtain ⟨r, hr⟩ : ∃ x, W.heap.size = x := ⟨_, rfl⟩
  rw [hb, hr] at hdb
  have hbr : ¬ b = r := by have := hdb.hr; omega
  have hrb : ¬ r = b := by omega
  have HLL : Hid (∀ w', Below w.heap.size w w' → FRow w' 0 (.slice A n cc) L) := Lib.hid fun w' h => owns_below hL h
  have HRD : Hid (∀ w', Below w.heap.size w w' → Rd w' (rdV c (.slice A n cc) off left keep) ⟨c, D, off, left, keep⟩) := Lib.hid fun w' h => Rd.mk' (owns_below hL h) hn hp
  have HTL := Lib.hid (tidy_of hok (Nat.le_trans hf (by omega)) hp)
  have hln : n ≤ 1000 := by have := HTL.out.len; omega
  have hlf : left ≤ 9223372036854775807 := hok.lef
  have HN := Lib.hid hn
  have HP := Lib.hid hp
  have HOK := Lib.hid hok
  have HF := Lib.hid hf
  have HM := Lib.hid hm
  have HDB := Lib.hid hdb
  clear hdb
  clear hL hn hp hok hf
  have HQ := Lib.hid hq
  clear hq
  obtain ⟨p0, p1, p2, p3, p4, z0, z1, z2, z3, z4⟩ := HDB.out.one.five
  have hw := rd_wrong (w := W2) (c := c) (off := off) (left := left) (keep := keep) (.slice A n cc) m HM.out
  obtain ⟨en, hen⟩ : ∃ en, vd.nameErr off [m] = en := ⟨_, rfl⟩
  rw [hen] at hw
  have HEN : Hid (vd.nameErr (vd.Disk.off ⟨c, D, off, left, keep⟩) [m] = en) := Lib.hid hen
  obtain ⟨fn, hfn⟩ : ∃ en, vd.nameErr off [q] = en := ⟨_, rfl⟩
  have HFN : Hid (vd.nameErr (vd.Disk.off ⟨c, D, off, left, keep⟩) [q] = fn) := Lib.hid hfn
  have HFN2 := Lib.hid hfn
  unfold rdV keyV at hw ⊢
  clear hm hen hfn
  go_enter Tryd.func78, Tryd.ntmps78
  go_wp2_with fail
  refine hw.mono ?_
  rintro e w3 ⟨rfl, b3⟩
  have HD3 := Lib.hid (HDB.out.later b3)
  clear p0 p1 p2 p3 p4 z0 z1 z2 z3 z4 hw b3
  obtain ⟨p0, p1, p2, p3, p4, z0, z1, z2, z3, z4⟩ := HD3.out.one.five
  have hw := rd_wrong (w := w3) (c := c) (off := off) (left := left) (keep := keep) (.slice A n cc) q HQ.out
  rw [HFN2.out] at hw
  unfold rdV keyV at hw
  go_wp2_with fail
  refine hw.mono ?_
  rintro e w4 ⟨rfl, b4⟩
  have HD4 := Lib.hid (HD3.out.later b4)
  clear p0 p1 p2 p3 p4 z0 z1 z2 z3 z4 hw b4
  obtain ⟨p0, p1, p2, p3, p4, z0, z1, z2, z3, z4⟩ := HD4.out.one.five
  have hfi := rd_find (w := w4) (c := c) (off := off) (left := left) (keep := keep) m (HLL.out _ HD4.out.below) HN.out hln
  unfold rdV keyV at hfi
  go_wp2_with fail
  refine hfi.mono ?_
  rintro e w5 ⟨i, rfl, b5, hfd⟩
  have HD5 := Lib.hid (HD4.out.later b5)
  clear p0 p1 p2 p3 p4 z0 z1 z2 z3 z4 hfi b5
  obtain ⟨p0, p1, p2, p3, p4, z0, z1, z2, z3, z4⟩ := HD5.out.one.five
  obtain ⟨y0, y1, y2, y3, y4, s0, s1, s2, s3, s4⟩ := HD5.out.res.five
  by_cases h0 : en = 0
  · by_cases h1 : fn = 0
    · subst h0
      subst h1
      have HE2 : Hid (vd.nameErr (vd.Disk.off ⟨c, D, off, left, keep⟩) [m, q] = 0) := Lib.hid (by show vd.nameErr off [m, q] = _; rw [vd.err_max]; show Nat.max (vd.nameErr (vd.Disk.off ⟨c, D, off, left, keep⟩) [m]) (vd.nameErr (vd.Disk.off ⟨c, D, off, left, keep⟩) [q]) = _; rw [HEN.out, HFN.out]; rfl)
      rcases hfd with ⟨rfl, hno⟩ | ⟨j, x, rfl, hx, hxm⟩
      · have HNO := Lib.hid (vd.not_has HP.out hno)
        clear hno
        have HEQ : Hid (vd.rename ⟨c, D, off, left, keep⟩ m q = _) := Lib.hid ((vd.rename_ok HE2.out).trans (vd.there_no (d := ⟨c, D, off, left, keep⟩) HEN.out HNO.out))
        have HRET := Lib.hid (HD5.out.ret c (.slice A n cc) off left keep)
        go_wp2_with fail
        refine bodyPost_ret (results_c1t rfl _ _ r _ _ (0, 0) _ rfl HRET.out.1 Tryd.underlying45 rfl rd_dsize) rfl ?_
        rw [HEQ.out]
        exact ⟨_, rfl, HRD.out _ HRET.out.2, HRET.out.2⟩
      · have HX := Lib.hid (vd.is_there HP.out HOK.out.nod hx hxm)
        have HEQ : Hid (vd.rename ⟨c, D, off, left, keep⟩ m q = (vd.done ⟨c, D, off, left, keep⟩ (vd.put (vd.del D m) q x.2) false, vd.doneE ⟨c, D, off, left, keep⟩)) := Lib.hid (by rw [(vd.rename_ok HE2.out).trans (vd.there_yes (d := ⟨c, D, off, left, keep⟩) HEN.out HX.out.1)]; show (vd.done _ (vd.put (vd.del D m) q (vd.at_ D m)) false, _) = _; rw [HX.out.2])
        clear hxm
        obtain ⟨W5, hW5⟩ : ∃ W5, w5.alloc (.cells #[.int .i64 (c : Int), .slice A n cc, .bool off, .int .i64 (left : Int), .int .i64 keep] 45) = W5 := ⟨_, rfl⟩
        have hb5 : Below w5.heap.size w5 W5 := by rw [← hW5]; exact (Below.refl _ w5).alloc (Nat.le_refl _) _
        have HD6 := Lib.hid (HD5.out.later hb5)
        have hg5 : Vb W5 w5.heap.size (rdC c (.slice A n cc) off left keep) 45 := by rw [← hW5]; exact Vb.new w5 _ _
        have hgs : W5.heap.size = w5.heap.size + 1 := by rw [← hW5]; exact Array.size_push _
        obtain ⟨g, hg⟩ : ∃ x, w5.heap.size = x := ⟨_, rfl⟩
        rw [hg] at hg5 hgs
        have hrg : r < g := by rw [← hg]; exact HD5.out.res.lt
        have HG5 := Lib.hid hg5
        have HGS := Lib.hid hgs
        have HHG := Lib.hid hg
        have ngb : ¬ g = b := by have := HD6.out.hr; omega
        have nbg : ¬ b = g := by omega
        have ngr : ¬ g = r := by omega
        have nrg : ¬ r = g := by omega
        clear hb5 hg5 hgs y0 y1 y2 y3 y4 s0 s1 s2 s3 s4
        obtain ⟨p0b, p1b, p2b, p3b, p4b, z0b, z1b, z2b, z3b, z4b⟩ := HD6.out.one.five
        obtain ⟨gg, rfl, _, k0, k1, k2⟩ := FRow.at_ (HLL.out _ HD6.out.below) j x hx
        have hjn : j < n := by
          rcases Nat.lt_or_ge j n with h | h
          · exact h
          · rw [List.getElem?_eq_none (by rw [HN.out]; exact h)] at hx; cases hx
        unfold keyV at k0
        clear hx
        obtain ⟨Wb, hWb⟩ : ∃ Wb, W5.alloc (.cells #[.string (crcm.mk x.1), .string (crcm.mk x.2.1), .int .i64 (x.2.2 : Int)] 99) = Wb := ⟨_, rfl⟩
        have hbb : Below W5.heap.size W5 Wb := by rw [← hWb]; exact (Below.refl _ W5).alloc (Nat.le_refl _) _
        have hvh : Vb Wb W5.heap.size [.string (crcm.mk x.1), .string (crcm.mk x.2.1), .int .i64 (x.2.2 : Int)] 99 := by rw [← hWb]; exact Vb.new W5 _ _
        obtain ⟨h, hh⟩ : ∃ x, W5.heap.size = x := ⟨_, rfl⟩
        have hgh : g < h := by rw [← hh, HGS.out]; omega
        rw [hh] at hvh
        have hgb := HG5.out.below hbb
        have hh0 := hvh.cell 0 _ rfl
        have hhf := hvh.free 0
        have HDb := Lib.hid (HD6.out.later hbb)
        have hdc := HDb.out.cell (g := h) (by omega) 0 (.string (crcm.mk q))
        have hvc := hvh.set 0 (.string (crcm.mk q))
        have hgc := hgb.apart (Apart.setCell Wb h 0 (.string (crcm.mk q))) (by simp; omega)
        obtain ⟨Wc, hWc⟩ : ∃ Wc, Wb.setCell ⟨h, 0, none⟩ (.string (crcm.mk q)) = Wc := ⟨_, rfl⟩
        rw [hWc] at hdc hvc hgc
        have HDc := Lib.hid hdc
        have HVc := Lib.hid hvc
        have HGc := Lib.hid hgc
        obtain ⟨p0d, p1d, p2d, p3d, p4d, z0d, z1d, z2d, z3d, z4d⟩ := HDc.out.one.five
        clear hbb hvh hgb hdc hvc hgc
        obtain ⟨L1, hL1⟩ : ∃ L1, L.filter (fun x => decide (x.1 ≠ m)) = L1 := ⟨_, rfl⟩
        obtain ⟨n1, hn1⟩ : ∃ n1, L1.length = n1 := ⟨_, rfl⟩
        have hn1l : n1 ≤ 1000 := by rw [← hn1, ← hL1]; have := List.length_filter_le (fun x : vd.Name × vd.File => decide (x.1 ≠ m)) L; have := HN.out; omega
        obtain ⟨L2, hL2⟩ : ∃ L2, L1.filter (fun x => decide (x.1 ≠ q)) = L2 := ⟨_, rfl⟩
        obtain ⟨n2, hn2⟩ : ∃ n2, L2.length = n2 := ⟨_, rfl⟩
        have hn2l : n2 ≤ 1000 := by rw [← hn2, ← hL2]; have := List.length_filter_le (fun x : vd.Name × vd.File => decide (x.1 ≠ q)) L1; omega
        have HW1 : Hid (∀ w', Below Wc.heap.size Wc w' → Calls Tryd.prog 98 #[.slice (some ⟨gg, 0, none⟩) n cc, .string (crcm.mk m)] w' (fun e w2 => ∃ A8 c8, e = .returned (.slice A8 n1 c8) ∧ FRow w2 0 (.slice A8 n1 c8) L1 ∧ Below w'.heap.size w' w2)) := Lib.hid fun w' hb => by
          refine (rd_without (w := w') m (HLL.out _ (HDc.out.below.trans (hb.mono HDc.out.below.size))) HN.out hln).mono ?_
          rintro e w2 ⟨v, rfl, ho, hb⟩
          rw [hL1] at ho
          obtain ⟨A8, c8, rfl⟩ := ho.form
          rw [hn1] at *
          exact ⟨A8, c8, rfl, ho.low, hb⟩
        have HW2 : Hid (∀ w' A8 c8, FRow w' 0 (.slice A8 n1 c8) L1 → Calls Tryd.prog 98 #[.slice A8 n1 c8, .string (crcm.mk q)] w' (fun e w2 => ∃ A9 c9, e = .returned (.slice A9 n2 c9) ∧ FRow w2 0 (.slice A9 n2 c9) L2 ∧ Below w'.heap.size w' w2)) := Lib.hid fun w' A8 c8 ho => by
          refine (rd_without (w := w') q ho hn1 hn1l).mono ?_
          rintro e w2 ⟨v, rfl, ho, hb⟩
          rw [hL2] at ho
          obtain ⟨A8, c8, rfl⟩ := ho.form
          rw [hn2] at *
          exact ⟨A8, c8, rfl, ho.low, hb⟩
        have HW3 : Hid (∀ w' A9 c9, FRow w' 0 (.slice A9 n2 c9) L2 → Calls Tryd.prog 99 #[.slice A9 n2 c9, .agg #[.string (crcm.mk q), .string (crcm.mk x.2.1), .int .i64 (x.2.2 : Int)]] w' (fun e w2 => ∃ A9 c9 k M, e = .returned (.slice A9 k c9) ∧ M.length = k ∧ FRow w2 0 (.slice A9 k c9) M ∧ M.Perm ((q, x.2) :: L2) ∧ Below w'.heap.size w' w2)) := Lib.hid fun w' A9 c9 ho => by
          refine (rd_with (w := w') (q, x.2) ho hn2 hn2l).mono ?_
          rintro e w2 ⟨v, M, rfl, ho, hp, hb⟩
          obtain ⟨A8, c8, rfl⟩ := ho.form
          exact ⟨A8, c8, _, M, rfl, rfl, ho.low, hp, hb⟩
        have HPE : Hid (∀ M : vd.Files, M.Perm ((q, x.2) :: L2) → M.Perm (vd.put (vd.del D m) q x.2)) := Lib.hid fun M h => by
          refine h.trans (((?_ : L2.Perm _).cons _).trans (vd.put_cons (vd.del D m) q x.2 (vd.del_nodup HOK.out.nod m)).symm)
          rw [← hL2, ← hL1]
          exact (vd.del_perm HP.out HOK.out.nod m).filter _
        have MK : Hid (∀ w', Below Wc.heap.size Wc w' → w'.cell? ⟨b, 1, none⟩ = some (.slice (some ⟨gg, 0, none⟩) n cc) ∧ w'.cell? ⟨h, 0, none⟩ = some (.string (crcm.mk q)) ∧ w'.cell? ⟨h, 1, none⟩ = some (.string (crcm.mk x.2.1)) ∧ w'.cell? ⟨h, 2, none⟩ = some (.int .i64 (x.2.2 : Int))) := Lib.hid fun w' hb => by
          have h1 := (HDc.out.later hb).one
          have h2 := HVc.out.below hb
          exact ⟨h1.cell 1 _ rfl, h2.cell 0 _ rfl, h2.cell 1 _ rfl, h2.cell 2 _ rfl⟩
        have MK2 : Hid (∀ w', Below Wc.heap.size Wc w' → ∀ u, (w'.setCell ⟨g, 1, none⟩ u).cell? ⟨b, 1, none⟩ = some (.slice (some ⟨gg, 0, none⟩) n cc) ∧ (w'.setCell ⟨g, 1, none⟩ u).cell? ⟨h, 0, none⟩ = some (.string (crcm.mk q)) ∧ (w'.setCell ⟨g, 1, none⟩ u).cell? ⟨h, 1, none⟩ = some (.string (crcm.mk x.2.1)) ∧ (w'.setCell ⟨g, 1, none⟩ u).cell? ⟨h, 2, none⟩ = some (.int .i64 (x.2.2 : Int))) := Lib.hid fun w' hb u => by
          have h1 := ((HDc.out.later hb).cell (g := g) hrg 1 u).one
          have h2 := (HVc.out.below hb).apart (Apart.setCell w' g 1 u) (by simp; omega)
          exact ⟨h1.cell 1 _ rfl, h2.cell 0 _ rfl, h2.cell 1 _ rfl, h2.cell 2 _ rfl⟩
        clear hL1 hn1 hL2 hn2
        go_wp2_with fail
        have hW : Below Wc.heap.size Wc Wc.drew := below_drewN (Below.refl _ Wc) 1
        clear p0 p1 p2 p3 p4 z0 z1 z2 z3 z4 p0b p1b p2b p3b p4b z0b z1b z2b z3b z4b p0d p1d p2d p3d p4d z0d z1d z2d z3d z4d k0 k1 k2 hh0 hhf
        go_cut [] (fun wx => ∃ A9 c9 k M, DB w wx b r (rdC c (.slice (some ⟨gg, 0, none⟩) n cc) off left keep) ∧ Vb wx g (rdC c (.slice A9 k c9) off left keep) 45 ∧ M.length = k ∧ FRow wx 0 (.slice A9 k c9) M ∧ M.Perm ((q, x.2) :: L2))
        case first =>
          go_region_held3 (fun w' => w'.cell? ⟨b, 1, none⟩ = some (.slice (some ⟨gg, 0, none⟩) n cc) ∧ w'.cell? ⟨h, 0, none⟩ = some (.string (crcm.mk q)) ∧ w'.cell? ⟨h, 1, none⟩ = some (.string (crcm.mk x.2.1)) ∧ w'.cell? ⟨h, 2, none⟩ = some (.int .i64 (x.2.2 : Int)))
            (first | exact MK.out _ hW | exact MK2.out _ hW _)
            (first | (go_at_call 98; with_reducible refine (HW1.out _ hW).mono ?_; rintro e w8 ⟨A8, c8, rfl, hO8, hb8⟩; have hW := hW.trans (hb8.mono hW.size)) | (go_at_call 98; with_reducible refine (HW2.out _ _ _ hO8).mono ?_; rintro e w9 ⟨A9, c9, rfl, hO9, hb9⟩; have hW := hW.trans (hb9.mono hW.size)) | (go_at_call 99; with_reducible refine (HW3.out _ _ _ hO9).mono ?_; rintro e w10 ⟨A10, c10, k10, M, rfl, hk10, hO10, hM10, hb10⟩; have hW := hW.trans (hb10.mono hW.size); have hg1 := (HGc.out.below hW).cell 1 _ rfl; have hgf := (HGc.out.below hW).free 1))
          all_goals
            go_wp2_with fail
            go_meet
            exact ⟨A10, c10, k10, M, (HDc.out.later hW).cell hrg 1 _, (HGc.out.below hW).set 1 _, hk10, owns_apart hO10 (Apart.setCell _ g 1 _) (fun y hy => by simpa using hO10.out (HGc.out.below hW) (by decide) y hy), hM10⟩
        case rest =>
          obtain ⟨A7, c7, k7, M, hDB, hg8, hk7, hO8, hM8⟩ := hcut
          have HD8 := Lib.hid hDB
          have HO8 := Lib.hid hO8
          have HK7 := Lib.hid hk7
          have HMP : Hid (M.Perm (vd.put (vd.del D m) q x.2)) := Lib.hid (HPE.out M hM8)
          have HMT := Lib.hid (tidy_of (d := ⟨c, vd.put (vd.del D m) q x.2, off, left, keep⟩) (vd.ok_ren HOK.out HE2.out HX.out.2) (by show (vd.put (vd.del D m) q _).length ≤ 1000; rw [vd.put_len2]; have := (vd.del_sub D m).length_le; have := HF.out; split <;> omega) HMP.out)
          clear hDB hO8 hk7 hM8 hW
          obtain ⟨p0, p1, p2, p3, p4, z0, z1, z2, z3, z4⟩ := HD8.out.one.five
          obtain ⟨v0, v1, v2, v3, v4, x0, x1, x2, x3, x4⟩ := hg8.five
          clear hg8
          have hdn := rd_done (w := wc) (c := c) (n := n) (cc := cc) (off := off) (left := left) (keep := keep) (L := L) (B := A7) (m := k7) (dd := c7) (M := M) false (HLL.out _ HD8.out.below) HN.out HO8.out HK7.out HTL.out HMT.out hlf
          unfold rdV at hdn
          go_wp2_with fail
          refine hdn.mono ?_
          rintro e w9 ⟨v9, rfl, ho9, b9⟩
          obtain ⟨A9, c9, rfl⟩ := ho9.form
          have hto := rd_done_to (a := false) HP.out HMP.out ho9
          obtain ⟨n9, hn9⟩ : ∃ x, (vd.done ⟨c, L, off, left, keep⟩ M false).files.length = x := ⟨_, rfl⟩
          rw [hn9] at hto ⊢
          obtain ⟨⟨k0, F0, o0, l0, q0⟩, hd0⟩ : ∃ x, vd.done ⟨c, L, off, left, keep⟩ M false = x := ⟨_, rfl⟩
          rw [hd0] at hto ⊢
          have hag : ∀ v, rdD ⟨k0, F0, o0, l0, q0⟩ v = .agg #[.int .i64 (k0 : Int), v, .bool o0, .int .i64 (l0 : Int), .int .i64 q0] := fun v => rfl
          have hde : vd.doneE ⟨c, L, off, left, keep⟩ = vd.doneE ⟨c, D, off, left, keep⟩ := rfl
          rw [hde]
          obtain ⟨e9, he9⟩ : ∃ x, vd.doneE ⟨c, D, off, left, keep⟩ = x := ⟨_, rfl⟩
          rw [he9, hag]
          have HD9 := Lib.hid (HD8.out.later b9)
          have HTO := Lib.hid (hto.put HD9.out.res k0 (.slice A9 n9 c9) o0 l0 q0)
          have HE9 := Lib.hid he9
          have HRET := Lib.hid (HD9.out.ret k0 (.slice A9 n9 c9) o0 l0 q0)
          clear hdn ho9 b9 hto hn9 hd0 hag hde he9
          obtain ⟨y0i, y1i, y2i, y3i, y4i, s0i, s1i, s2i, s3i, s4i⟩ := HD9.out.res.five
          go_wp2_with fail
          refine bodyPost_ret (results_c1t rfl _ _ r _ _ (0, 0) _ rfl HRET.out.1 Tryd.underlying45 rfl rd_dsize) rfl ?_
          rw [HEQ.out]
          refine ⟨_, ?_, HTO.out, HRET.out.2⟩
          rw [← HE9.out]; rfl
    · have i1 : ¬ (fn : Int) = 0 := by omega
      have HEQ : Hid (vd.rename ⟨c, D, off, left, keep⟩ m q = (⟨c, D, off, left, keep⟩, Nat.max en fn)) := Lib.hid (vd.rename_err (d := ⟨c, D, off, left, keep⟩) (by show vd.nameErr off [m, q] = _; rw [vd.err_max]; show Nat.max (vd.nameErr (vd.Disk.off ⟨c, D, off, left, keep⟩) [m]) (vd.nameErr (vd.Disk.off ⟨c, D, off, left, keep⟩) [q]) = _; rw [HEN.out, HFN.out]) (by show ¬ max en fn = 0; omega))
      clear hfd
      have HRET := Lib.hid (HD5.out.ret c (.slice A n cc) off left keep)
      go_wp2_with fail
      refine bodyPost_ret (results_c1t rfl _ _ r _ _ (0, 0) _ rfl HRET.out.1 Tryd.underlying45 rfl rd_dsize) rfl ?_
      rw [HEQ.out]
      refine ⟨_, ?_, HRD.out _ HRET.out.2, HRET.out.2⟩
      have hmx : ((Nat.max en fn : Nat) : Int) = (fn : Int) := by show ((max en fn : Nat) : Int) = _; omega
      rw [hmx]
      rfl
  · have i0 : ¬ (en : Int) = 0 := by omega
    have HEQ : Hid (vd.rename ⟨c, D, off, left, keep⟩ m q = (⟨c, D, off, left, keep⟩, Nat.max en fn)) := Lib.hid (vd.rename_err (d := ⟨c, D, off, left, keep⟩) (by show vd.nameErr off [m, q] = _; rw [vd.err_max]; show Nat.max (vd.nameErr (vd.Disk.off ⟨c, D, off, left, keep⟩) [m]) (vd.nameErr (vd.Disk.off ⟨c, D, off, left, keep⟩) [q]) = _; rw [HEN.out, HFN.out]) (by show ¬ max en fn = 0; omega))
    clear hfd
    have HRET := Lib.hid (HD5.out.ret c (.slice A n cc) off left keep)
    go_wp2_with fail
    refine bodyPost_ret (results_c1t rfl _ _ r _ _ (0, 0) _ rfl HRET.out.1 Tryd.underlying45 rfl rd_dsize) rfl ?_
    rw [HEQ.out]
    refine ⟨_, ?_, HRD.out _ HRET.out.2, HRET.out.2⟩
    have hmx : ((Nat.max en fn : Nat) : Int) = max (en : Int) (fn : Int) := by show ((max en fn : Nat) : Int) = _; omega
    rw [hmx]
    rfl
end
end
section
open Go Go.RowKit
set_option maxRecDepth 100000

section
variable {w : World} {c cc n left : Nat} {A : Option Addr} {off : Bool} {keep : Int} {L D : vd.Files}
set_option maxHeartbeats 16000000 in
theorem rd_read (m : vd.Name) (hm : m.length ≤ maxLen) (hL : FRow w 0 (.slice A n cc) L) (hn : L.length = n) (hp : L.Perm D) (hok : vd.Ok ⟨c, D, off, left, keep⟩) (hf : D.length ≤ 200) :
    Calls Tryd.prog 45 #[rdV c (.slice A n cc) off left keep, keyV m] w (fun e w' => e = .returned (.tuple #[.string (crcm.mk (vd.read ⟨c, D, off, left, keep⟩ m).1), .int .i64 ((vd.read ⟨c, D, off, left, keep⟩ m).2 : Int)]) ∧ Below w.heap.size w w') := by
  obtain ⟨W, hW⟩ : ∃ W, w.alloc (.cells #[.int .i64 (c : Int), .slice A n cc, .bool off, .int .i64 (left : Int), .int .i64 keep] 45) = W := ⟨_, rfl⟩
  have HLL : Hid (∀ w', Below w.heap.size w w' → FRow w' 0 (.slice A n cc) L) := Lib.hid fun w' h => owns_below hL h
  have HRD : Hid (∀ w', Below w.heap.size w w' → Rd w' (rdV c (.slice A n cc) off left keep) ⟨c, D, off, left, keep⟩) := Lib.hid fun w' h => Rd.mk' (owns_below hL h) hn hp
  have HTL := Lib.hid (tidy_of hok (Nat.le_trans hf (by omega)) hp)
  have hln : n ≤ 1000 := by have := HTL.out.len; omega
  have hlf : left ≤ 9223372036854775807 := hok.lef
  have HN := Lib.hid hn
  have HP := Lib.hid hp
  have HOK := Lib.hid hok
  have HF := Lib.hid hf
  have HM := Lib.hid hm
  clear hL hn hp hok hf
  have hb : Below w.heap.size w W := by rw [← hW]; exact (Below.refl _ w).alloc (Nat.le_refl _) _
  have hv : Vb W w.heap.size (rdC c (.slice A n cc) off left keep) 45 := by rw [← hW]; exact Vb.new w _ _
  obtain ⟨b, hbb⟩ : ∃ x, w.heap.size = x := ⟨_, rfl⟩
  have HB := Lib.hid hb
  rw [hbb] at hv
  have HV := Lib.hid hv
  clear hb hv
  obtain ⟨p0, p1, p2, p3, p4, z0, z1, z2, z3, z4⟩ := HV.out.five
  have hw := rd_wrong (w := W) (c := c) (off := off) (left := left) (keep := keep) (.slice A n cc) m HM.out
  obtain ⟨en, hen⟩ : ∃ en, vd.nameErr off [m] = en := ⟨_, rfl⟩
  rw [hen] at hw
  have HEN : Hid (vd.nameErr (vd.Disk.off ⟨c, D, off, left, keep⟩) [m] = en) := Lib.hid hen
  unfold rdV keyV at hw ⊢
  clear hm hen
  go_enter Tryd.func45, Tryd.ntmps45
  go_wp2_with fail
  refine hw.mono ?_
  rintro e w3 ⟨rfl, b3⟩
  have HB3 := Lib.hid (HB.out.trans (b3.mono HB.out.size))
  have HV3 := Lib.hid (HV.out.below b3)
  clear p0 p1 p2 p3 p4 z0 z1 z2 z3 z4 hw b3
  obtain ⟨p0, p1, p2, p3, p4, z0, z1, z2, z3, z4⟩ := HV3.out.five
  have hfi := rd_find (w := w3) (c := c) (off := off) (left := left) (keep := keep) m (HLL.out _ HB3.out) HN.out hln
  unfold rdV keyV at hfi
  go_wp2_with fail
  refine hfi.mono ?_
  rintro e w4 ⟨i, rfl, b4, hi⟩
  have HB4 := Lib.hid (HB3.out.trans (b4.mono HB3.out.size))
  have HV4 := Lib.hid (HV3.out.below b4)
  clear p0 p1 p2 p3 p4 z0 z1 z2 z3 z4 hfi b4
  obtain ⟨p0, p1, p2, p3, p4, z0, z1, z2, z3, z4⟩ := HV4.out.five
  by_cases h0 : en = 0
  · subst h0
    rcases hi with ⟨rfl, hno⟩ | ⟨j, x, rfl, hx, hxm⟩
    · have HEQ := Lib.hid (vd.read_no (d := ⟨c, D, off, left, keep⟩) HEN.out (vd.not_has HP.out hno))
      clear hno
      go_wp2_with fail
      go_ret2
      rw [HEQ.out]
      exact ⟨rfl, HB4.out⟩
    · have hX := vd.is_there HP.out HOK.out.nod hx hxm
      have HEQ := Lib.hid (vd.read_yes (d := ⟨c, D, off, left, keep⟩) HEN.out hX.1)
      rw [hX.2] at HEQ
      obtain ⟨gg, rfl, _, k0, k1, k2⟩ := FRow.at_ (HLL.out _ HB4.out) j x hx
      have hjn : j < n := by
        rcases Nat.lt_or_ge j n with h | h
        · exact h
        · rw [List.getElem?_eq_none (by rw [HN.out]; exact h)] at hx; cases hx
      clear hx hxm hX
      go_wp2_with fail
      go_ret2
      rw [HEQ.out]
      exact ⟨rfl, HB4.out⟩
  · have HEQ := Lib.hid (vd.read_err (d := ⟨c, D, off, left, keep⟩) HEN.out h0)
    have e0 : ¬ (en : Int) = 0 := by omega
    clear hi
    go_wp2_with fail
    go_ret2
    rw [HEQ.out]
    exact ⟨rfl, HB4.out⟩
end
end
section
open Go Go.RowKit
set_option maxRecDepth 100000

theorem Rd.form {w : World} {v : Value} {d : vd.Disk} (h : Rd w v d) : ∃ A n cc, v = .agg #[.int .i64 (d.cap : Int), .slice A n cc, .bool d.off, .int .i64 (d.left : Int), .int .i64 d.keep] := by
  obtain ⟨L, A, cc, rfl, _⟩ := h
  exact ⟨A, _, cc, rfl⟩
theorem DB.store {w W : World} {b r : Nat} {c0 left0 : Nat} {v0 : Value} {off0 : Bool} {keep0 : Int} (h : DB w W b r (rdC c0 v0 off0 left0 keep0)) (c : Nat) (v : Value) (off : Bool) (left : Nat) (keep : Int) : DB w (put5 W b c v off left keep) b r (rdC c v off left keep) :=
  ⟨put5_below h.below h.hb c v off left keep, h.hb, h.hr, put5_vb h.one c v off left keep, h.res.apart (put5_apart W b c v off left keep) (by have := h.hr; simp; omega)⟩
section
variable {w : World} {v : Value} {d : vd.Disk}
theorem use_create (h : Rd w v d) (ho : vd.Ok d) (hf : vd.Few d) (m : vd.Name) (hm : m.length ≤ maxLen) : Calls Tryd.prog 77 #[v, keyV m] w (RdTo w (vd.create d m)) := by
  obtain ⟨L, A, cc, rfl, hr, hp⟩ := h
  obtain ⟨c, D, off, left, keep⟩ := d
  exact rd_create m hm hr rfl hp ho hf.len
theorem use_delete (h : Rd w v d) (ho : vd.Ok d) (hf : vd.Few d) (m : vd.Name) (hm : m.length ≤ maxLen) : Calls Tryd.prog 76 #[v, keyV m] w (RdTo w (vd.delete d m)) := by
  obtain ⟨L, A, cc, rfl, hr, hp⟩ := h
  obtain ⟨c, D, off, left, keep⟩ := d
  exact rd_delete m hm hr rfl hp ho hf.len
theorem use_sync (h : Rd w v d) (ho : vd.Ok d) (hf : vd.Few d) (m : vd.Name) (hm : m.length ≤ maxLen) : Calls Tryd.prog 48 #[v, keyV m] w (RdTo w (vd.sync d m)) := by
  obtain ⟨L, A, cc, rfl, hr, hp⟩ := h
  obtain ⟨c, D, off, left, keep⟩ := d
  exact rd_sync m hm hr rfl hp ho hf.len
theorem use_append (h : Rd w v d) (ho : vd.Ok d) (hf : vd.Few d) (m : vd.Name) (hm : m.length ≤ maxLen) (s : List UInt8) (hs : s.length ≤ 1000000000) : Calls Tryd.prog 50 #[v, keyV m, .string (crcm.mk s)] w (RdTo w (vd.append d m s)) := by
  obtain ⟨L, A, cc, rfl, hr, hp⟩ := h
  obtain ⟨c, D, off, left, keep⟩ := d
  exact rd_append m s hm hs hf.non hr rfl hp ho hf.len
theorem use_rename (h : Rd w v d) (ho : vd.Ok d) (hf : vd.Few d) (m q : vd.Name) (hm : m.length ≤ maxLen) (hq : q.length ≤ maxLen) : Calls Tryd.prog 78 #[v, keyV m, keyV q] w (RdTo w (vd.rename d m q)) := by
  obtain ⟨L, A, cc, rfl, hr, hp⟩ := h
  obtain ⟨c, D, off, left, keep⟩ := d
  exact rd_rename m q hm hq hr rfl hp ho hf.len
theorem use_read (h : Rd w v d) (ho : vd.Ok d) (hf : vd.Few d) (m : vd.Name) (hm : m.length ≤ maxLen) : Calls Tryd.prog 45 #[v, keyV m] w (fun e w' => e = .returned (.tuple #[.string (crcm.mk (vd.read d m).1), .int .i64 ((vd.read d m).2 : Int)]) ∧ Below w.heap.size w w') := by
  obtain ⟨L, A, cc, rfl, hr, hp⟩ := h
  obtain ⟨c, D, off, left, keep⟩ := d
  exact rd_read m hm hr rfl hp ho hf.len
theorem use_size (h : Rd w v d) (ho : vd.Ok d) (hf : vd.Few d) : Calls Tryd.prog 27 #[v] w (fun e w' => e = .returned (.int .i64 (vd.total d.files : Int)) ∧ Below w.heap.size w w') := by
  obtain ⟨L, A, cc, rfl, hr, hp⟩ := h
  have h1 := ho.tot
  have h2 := ho.cap
  have h3 := hf.len
  have h4 := vd.total_perm hp
  rw [← h4]
  exact rd_size hr rfl (by rw [hp.length_eq]; omega) (by omega)
theorem use_crash (h : Rd w v d) (ho : vd.Ok d) (hf : vd.Few d) (keep : Int) : Calls Tryd.prog 24 #[v, .int .i64 keep] w (fun e w' => ∃ v', e = .returned v' ∧ Rd w' v' (vd.crash d keep) ∧ Below w.heap.size w w') := by
  obtain ⟨L, A, cc, rfl, hr, hp⟩ := h
  have tl := tidy_of ho (Nat.le_trans hf.len (by omega)) hp
  refine (rd_crash (c := d.cap) (off := d.off) (left := d.left) (keep0 := d.keep) keep hr rfl (by have := tl.len; omega) tl.syn tl.low).mono ?_
  rintro e w' ⟨v', rfl, ho', hb⟩
  obtain ⟨A', c', rfl⟩ := ho'.form
  exact ⟨_, rfl, ⟨_, A', c', rfl, ho'.low, hp.map _⟩, hb⟩
end
end
end Go.Proofs.YtdnoeahhidmkbaaDoor
