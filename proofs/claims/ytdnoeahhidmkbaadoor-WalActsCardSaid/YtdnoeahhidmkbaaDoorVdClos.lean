/- What is done with a file: the closures of the disk's calls. -/
import Derived.Test.YtdnoeahhidmkbaaDoorVdThere
namespace Go.Proofs.YtdnoeahhidmkbaaDoor
open Go Go.RowKit Go.Lib
set_option maxRecDepth 100000

section
variable {w : World} {p b gD gN gM gS : Nat} {d : vd.Disk} {n m : vd.Name} {f : vd.File}
theorem fileV_eq (f : vd.File) : fileV f = .agg #[.string (crcm.mk f.1), .int .i64 (f.2 : Int)] := rfl
theorem empty_file : fileV ([], 0) = .agg #[.string ByteArray.empty, .int .i64 0] := rfl
set_option maxHeartbeats 4000000 in
theorem vd_create1 (hd : Dk w p b d) (hD : Vb w gD [dptr p] 23) (hN : Vb w gN [keyV n] 9) (hn : n.length ≤ maxLen) (hc : d.cap ≤ 1000000000) (ht : vd.total d.files ≤ d.cap) :
    Calls Tryd.prog 89 #[.pointer (some ⟨gD, 0, none⟩), .pointer (some ⟨gN, 0, none⟩)] w (fun e w2 => e = .returned (.tuple #[]) ∧ Dk w2 p b { d with files := vd.put d.files n ([], 0) } ∧ Apart [p, b] w w2) := by
  have q0 := hD.cell 0 _ rfl
  have q1 := hN.cell 0 _ rfl
  have hs := vd_set n ([], 0) false hd hn hc ht (by simp; omega) (fun h => by cases h)
  rw [empty_file] at hs
  unfold dptr at q0
  unfold keyV at q1 hs
  go_enter Tryd.func89, Tryd.ntmps89
  go_wp2_with fail
  refine hs.mono ?_
  rintro e w2 ⟨rfl, h1, h2, _⟩
  go_wp2_with fail
  go_end0
  exact ⟨rfl, h1, h2⟩
set_option maxHeartbeats 4000000 in
theorem vd_delete1 (hd : Dk w p b d) (hD : Vb w gD [dptr p] 23) (hN : Vb w gN [keyV n] 9) (hn : n.length ≤ maxLen) (hc : d.cap ≤ 1000000000) (ht : vd.total d.files ≤ d.cap) (hh : vd.has d.files n = true) :
    Calls Tryd.prog 87 #[fileV f, .pointer (some ⟨gD, 0, none⟩), .pointer (some ⟨gN, 0, none⟩)] w (fun e w2 => e = .returned (.tuple #[]) ∧ Dk w2 p b { d with files := vd.del d.files n } ∧ Apart [p, b] w w2) := by
  obtain ⟨W, hW⟩ : ∃ W, w.alloc (.cells #[.string (crcm.mk f.1), .int .i64 (f.2 : Int)] 96) = W := ⟨_, rfl⟩
  have hb1 : Below w.heap.size w W := by rw [← hW]; exact (Below.refl _ w).alloc (Nat.le_refl _) _
  have hA1 := Apart.of_below hb1 [p, b]
  have hd1 : Dk W p b d := ⟨(hb1.block p hd.blk.lt).trans hd.blk, hd.map.below hb1⟩
  have q0 := (show Vb W gD _ _ from (hb1.block _ hD.lt).trans hD).cell 0 _ rfl
  have q1 := (show Vb W gN _ _ from (hb1.block _ hN.lt).trans hN).cell 0 _ rfl
  have hs := vd_set n ([], 0) true hd1 hn hc ht (by simp; omega) (fun _ => rfl)
  rw [empty_file] at hs
  have hdp : vd.setF d.files n ([], 0) true = vd.del d.files n := vd.del_put _ _ _ hh
  rw [hdp] at hs
  unfold dptr at q0
  unfold keyV at q1 hs
  rw [fileV_eq]
  go_enter Tryd.func87, Tryd.ntmps87
  go_wp2_with fail
  refine hs.mono ?_
  rintro e w2 ⟨rfl, h1, h2, _⟩
  go_wp2_with fail
  go_end0
  exact ⟨rfl, h1, hA1.trans h2⟩
set_option maxHeartbeats 4000000 in
theorem vd_sync1 (hd : Dk w p b d) (hD : Vb w gD [dptr p] 23) (hN : Vb w gN [keyV n] 9) (hn : n.length ≤ maxLen) (hc : d.cap ≤ 1000000000) (ht : vd.total d.files ≤ d.cap) (ha : vd.at_ d.files n = f) :
    Calls Tryd.prog 70 #[fileV f, .pointer (some ⟨gD, 0, none⟩), .pointer (some ⟨gN, 0, none⟩)] w (fun e w2 => e = .returned (.tuple #[]) ∧ Dk w2 p b { d with files := vd.put d.files n (f.1, f.1.length) } ∧ Apart [p, b] w w2) := by
  obtain ⟨L, hL⟩ : ∃ L, f.1.length = L := ⟨_, rfl⟩
  have hsz : (crcm.mk f.1).size = L := by rw [crcm.mk_size, hL]
  obtain ⟨W, hW⟩ : ∃ W, w.alloc (.cells #[.string (crcm.mk f.1), .int .i64 (L : Int)] 96) = W := ⟨_, rfl⟩
  have hb1 : Below w.heap.size w W := by rw [← hW]; exact (Below.refl _ w).alloc (Nat.le_refl _) _
  have hA1 := Apart.of_below hb1 [p, b]
  have hd1 : Dk W p b d := ⟨(hb1.block p hd.blk.lt).trans hd.blk, hd.map.below hb1⟩
  have q0 := (show Vb W gD _ _ from (hb1.block _ hD.lt).trans hD).cell 0 _ rfl
  have q1 := (show Vb W gN _ _ from (hb1.block _ hN.lt).trans hN).cell 0 _ rfl
  have hvW : Vb W w.heap.size [.string (crcm.mk f.1), .int .i64 (L : Int)] 96 := by rw [← hW]; exact Vb.new w _ _
  have q2 := hvW.cell 0 _ rfl
  have q3 := hvW.cell 1 _ rfl
  have hs := vd_set n (f.1, L) false hd1 hn hc ht (by rw [ha]; show _ + f.1.length ≤ f.1.length + _; omega) (fun h => by cases h)
  rw [fileV_eq] at hs
  unfold dptr at q0
  unfold keyV at q1 hs
  rw [fileV_eq]
  clear ha
  go_enter Tryd.func70, Tryd.ntmps70
  go_wp2_with fail
  refine hs.mono ?_
  rintro e w2 ⟨rfl, h1, h2, _⟩
  go_wp2_with fail
  go_end0
  exact ⟨rfl, by rw [hL]; exact h1, hA1.trans h2⟩
set_option maxHeartbeats 4000000 in
theorem vd_append1 {s : List UInt8} (hd : Dk w p b d) (hS : Vb w gS [.string (crcm.mk s)] 9) (hD : Vb w gD [dptr p] 23) (hN : Vb w gN [keyV n] 9) (hn : n.length ≤ maxLen) (hc : d.cap ≤ 1000000000) (ht : vd.total d.files ≤ d.cap) (ha : vd.at_ d.files n = f) (hsp : vd.total d.files + s.length ≤ d.cap) :
    Calls Tryd.prog 72 #[fileV f, .pointer (some ⟨gS, 0, none⟩), .pointer (some ⟨gD, 0, none⟩), .pointer (some ⟨gN, 0, none⟩)] w (fun e w2 => e = .returned (.tuple #[]) ∧ Dk w2 p b { d with files := vd.put d.files n (f.1 ++ s, f.2) } ∧ Apart [p, b] w w2) := by
  have htd := vd.total_del d.files n
  rw [ha] at htd
  have hcat : crcm.mk f.1 ++ crcm.mk s = crcm.mk (f.1 ++ s) := crcm.mk_append _ _
  have hz1 : (crcm.mk f.1).size = f.1.length := crcm.mk_size _
  have hz2 : (crcm.mk s).size = s.length := crcm.mk_size _
  obtain ⟨L, hL⟩ : ∃ L, f.1.length = L := ⟨_, rfl⟩
  obtain ⟨L2, hL2⟩ : ∃ L, s.length = L := ⟨_, rfl⟩
  have hno : ¬ 9223372036854775807 < L + L2 := by omega
  obtain ⟨W0, hW0⟩ : ∃ W, w.alloc (.cells #[.string (crcm.mk f.1), .int .i64 (f.2 : Int)] 96) = W := ⟨_, rfl⟩
  have hb0 : Below w.heap.size w W0 := by rw [← hW0]; exact (Below.refl _ w).alloc (Nat.le_refl _) _
  have hv0 : Vb W0 w.heap.size [.string (crcm.mk f.1), .int .i64 (f.2 : Int)] 96 := by rw [← hW0]; exact Vb.new w _ _
  obtain ⟨W, hW⟩ : ∃ W, W0.setCell ⟨w.heap.size, 0, none⟩ (.string (crcm.mk (f.1 ++ s))) = W := ⟨_, rfl⟩
  have hb1 : Below w.heap.size w W := by rw [← hW]; exact hb0.trans ((Apart.setCell W0 w.heap.size 0 _).below _ hb0.size (by simp))
  have hv1 : Vb W w.heap.size [.string (crcm.mk (f.1 ++ s)), .int .i64 (f.2 : Int)] 96 := by rw [← hW]; exact hv0.set 0 _
  have p0 := hv0.cell 0 _ rfl
  have p1 := hv0.free 0
  have p2 := hv1.cell 0 _ rfl
  have p3 := hv1.cell 1 _ rfl
  have hA1 := Apart.of_below hb1 [p, b]
  have hd1 : Dk W p b d := ⟨(hb1.block p hd.blk.lt).trans hd.blk, hd.map.below hb1⟩
  have q0 := (show Vb W gD _ _ from (hb1.block _ hD.lt).trans hD).cell 0 _ rfl
  have q1 := (show Vb W gN _ _ from (hb1.block _ hN.lt).trans hN).cell 0 _ rfl
  have qs := (show Vb W0 gS _ _ from (hb0.block _ hS.lt).trans hS).cell 0 _ rfl
  have hs := vd_set n (f.1 ++ s, f.2) false hd1 hn hc ht (by rw [ha]; show _ + (f.1 ++ s).length ≤ f.1.length + _; rw [List.length_append]; omega) (fun h => by cases h)
  rw [fileV_eq] at hs
  rw [hL] at hz1
  rw [hL2] at hz2
  unfold dptr at q0
  unfold keyV at q1 hs
  rw [fileV_eq]
  clear ha hL hL2
  go_enter Tryd.func72, Tryd.ntmps72
  go_wp2_with fail
  refine hs.mono ?_
  rintro e w2 ⟨rfl, h1, h2, _⟩
  go_wp2_with fail
  go_end0
  exact ⟨rfl, h1, hA1.trans h2⟩
set_option maxHeartbeats 4000000 in
theorem vd_rename1 (hd : Dk w p b d) (hD : Vb w gD [dptr p] 23) (hN : Vb w gN [keyV n] 9) (hM : Vb w gM [keyV m] 9) (hn : n.length ≤ maxLen) (hm : m.length ≤ maxLen) (hc : d.cap ≤ 1000000000) (ht : vd.total d.files ≤ d.cap) (hh : vd.has d.files n = true) (ha : vd.at_ d.files n = f) :
    Calls Tryd.prog 90 #[fileV f, .pointer (some ⟨gD, 0, none⟩), .pointer (some ⟨gN, 0, none⟩), .pointer (some ⟨gM, 0, none⟩)] w (fun e w2 => e = .returned (.tuple #[]) ∧ Dk w2 p b { d with files := vd.put (vd.del d.files n) m f } ∧ Apart [p, b] w w2) := by
  obtain ⟨W, hW⟩ : ∃ W, w.alloc (.cells #[.string (crcm.mk f.1), .int .i64 (f.2 : Int)] 96) = W := ⟨_, rfl⟩
  have hb1 : Below w.heap.size w W := by rw [← hW]; exact (Below.refl _ w).alloc (Nat.le_refl _) _
  have hA1 := Apart.of_below hb1 [p, b]
  have hvW : Vb W w.heap.size [.string (crcm.mk f.1), .int .i64 (f.2 : Int)] 96 := by rw [← hW]; exact Vb.new w _ _
  have hpl := hd.blk.lt
  have hbl := hd.map.lt
  have hd1 : Dk W p b d := ⟨(hb1.block p hd.blk.lt).trans hd.blk, hd.map.below hb1⟩
  have vD : Vb W gD _ _ := (hb1.block _ hD.lt).trans hD
  have vN : Vb W gN _ _ := (hb1.block _ hN.lt).trans hN
  have vM : Vb W gM _ _ := (hb1.block _ hM.lt).trans hM
  have hnot : ∀ {g : Nat} {x : Value} {t : TypeId}, Vb w g [x] t → g ∉ [p, b] := by
    intro g x t hg hx
    rcases List.mem_cons.1 hx with rfl | hx
    · have := hd.blk
      unfold Vb at this hg
      rw [hg] at this
      injection this with e
      simp [diskV] at e
    · rcases List.mem_cons.1 hx with rfl | hx
      · obtain ⟨es, c, hb, _⟩ := hd.map
        unfold Vb at hg
        rw [hg] at hb
        cases hb
      · cases hx
  have nD := hnot hD
  have nN := hnot hN
  have nM := hnot hM
  have q0 := vD.cell 0 _ rfl
  have q1 := vN.cell 0 _ rfl
  have hs := vd_set n ([], 0) true hd1 hn hc ht (by simp; omega) (fun _ => rfl)
  rw [empty_file] at hs
  have hdp : vd.setF d.files n ([], 0) true = vd.del d.files n := vd.del_put _ _ _ hh
  rw [hdp] at hs
  have htd := vd.total_del d.files n
  rw [ha] at htd
  have hs2 : Hid (∀ w2, Dk w2 p b { d with files := vd.del d.files n } → Calls Tryd.prog 52 #[dptr p, keyV m, fileV f, .bool false] w2 (fun e w3 => e = .returned (.tuple #[]) ∧ Dk w3 p b { d with files := vd.put (vd.del d.files n) m f } ∧ Apart [p, b] w2 w3)) := Lib.hid fun w2 h2 =>
    (vd_set m f false h2 hm hc (by show vd.total (vd.del d.files n) ≤ d.cap; omega) (by show vd.total (vd.del d.files n) + f.1.length ≤ _ + d.cap; omega) (fun h => by cases h)).mono (by rintro e w3 ⟨h1, h2, h3, _⟩; exact ⟨h1, h2, h3⟩)
  unfold dptr at q0
  unfold keyV at q1 hs
  rw [fileV_eq]
  clear ha htd hdp hnot
  go_enter Tryd.func90, Tryd.ntmps90
  go_wp2_with fail
  refine hs.mono ?_
  rintro e w2 ⟨rfl, h1, h2, _⟩
  have r0 := (vD.apart h2 nD).cell 0 _ rfl
  have r1 := (vM.apart h2 nM).cell 0 _ rfl
  have vF := hvW.apart h2 (by simp; omega)
  have r2 := vF.cell 0 _ rfl
  have r3 := vF.cell 1 _ rfl
  have hs3 := hs2.out w2 h1
  unfold dptr at r0 hs3
  unfold keyV at r1 hs3
  rw [fileV_eq] at hs3
  go_wp2_with fail
  refine hs3.mono ?_
  rintro e w3 ⟨rfl, h3, h4⟩
  go_wp2_with fail
  go_end0
  exact ⟨rfl, h3, (hA1.trans h2).trans h4⟩
end
end Go.Proofs.YtdnoeahhidmkbaaDoor
