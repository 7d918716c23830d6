/- set: a file of the disk. -/
import Derived.BigRegion
import Derived.Lib.Hide
import Derived.Test.YtdnoeahhidmkbaaDoorVdDisk
namespace Go.Proofs.YtdnoeahhidmkbaaDoor
open Go Go.RowKit Go.Lib
set_option maxRecDepth 100000

theorem field_s (s : ByteArray) (n : Int) (w : World) : (Instr.field 96 (.agg #[.string s, .int .i64 n]) 0).run Tryd.prog w = .ok (.string s) w := by kernel_rfl
set_option maxHeartbeats 4000000 in
theorem vd_set {w : World} {p b : Nat} {d : vd.Disk} (n : vd.Name) (f : vd.File) (gone : Bool) (hd : Dk w p b d) (hn : n.length ≤ maxLen) (hc : d.cap ≤ 1000000000) (ht : vd.total d.files ≤ d.cap) (hf : vd.total d.files + f.1.length ≤ (vd.at_ d.files n).1.length + d.cap)
    (hg : gone = true → f.1 = []) :
    Calls Tryd.prog 52 #[.pointer (some ⟨p, 0, none⟩), keyV n, fileV f, .bool gone] w
      (fun e w' => e = .returned (.tuple #[]) ∧ Dk w' p b { d with files := vd.setF d.files n f gone } ∧ Apart [p, b] w w' ∧ (vd.has d.files n = true → gone = false → SameBorn w w' b)) := by
  have hpb := hd.ne
  have hpl := hd.blk.lt
  have hbl := hd.map.lt
  have htp := vd.total_put d.files n f
  obtain ⟨fo, hfo⟩ : ∃ fo, fo = vd.at_ d.files n := ⟨_, rfl⟩
  rw [← hfo] at htp hf
  have hcap2 : vd.total (vd.put d.files n f) ≤ d.cap := by omega
  obtain ⟨T, hT⟩ : ∃ T, T = vd.total d.files := ⟨_, rfl⟩
  obtain ⟨T', hT'⟩ : ∃ T', T' = vd.total (vd.put d.files n f) := ⟨_, rfl⟩
  rw [← hT] at htp hf ht
  rw [← hT'] at htp hcap2
  obtain ⟨F, hF⟩ : ∃ F, F = f.1.length := ⟨_, rfl⟩
  obtain ⟨O, hO⟩ : ∃ O, O = fo.1.length := ⟨_, rfl⟩
  rw [← hF, ← hO] at htp hf
  have hFs : (crcm.mk f.1).size = F := by rw [crcm.mk_size, hF]
  have hOs : (crcm.mk fo.1).size = O := by rw [crcm.mk_size, hO]
  have hOT : O ≤ T := by
    have := vd.total_del d.files n
    rw [← hfo, ← hO, ← hT] at this
    omega
  have e1 : IntKind.i64.wrap ((F : Int) - (O : Int)) = (F : Int) - O := by rw [IntKind.wrap_i64]; omega
  have e2 : IntKind.i64.wrap ((T : Int) + ((F : Int) - O)) = (T' : Int) := by
    rw [IntKind.wrap_i64]; omega
  unfold keyV
  rw [show fileV f = .agg #[.string (crcm.mk f.1), .int .i64 (f.2 : Int)] from rfl]
  obtain ⟨W, hW⟩ : ∃ W, W = w.alloc (.cells #[.string (crcm.mk f.1), .int .i64 (f.2 : Int)] 96) := ⟨_, rfl⟩
  have hb1 : Below w.heap.size w W := by rw [hW]; exact (Below.refl _ w).alloc (Nat.le_refl _) _
  have hA1 : Apart [p, b] w W := .of_below hb1 _
  have hd1 : Dk W p b d := ⟨(hb1.block p hpl).trans hd.blk, hd.map.below hb1⟩
  have hsz : W.heap.size = w.heap.size + 1 := by rw [hW]; exact Array.size_push _
  have hB1 : Vb W w.heap.size [.string (crcm.mk f.1), .int .i64 (f.2 : Int)] 96 := by rw [hW]; exact Vb.new w _ _
  have c0 := hB1.cell 0 _ rfl
  have c1 := hB1.cell 1 _ rfl
  have q1 := hd1.blk.cell 1 _ rfl
  have q2 := hd1.blk.cell 2 _ rfl
  have z1 := hd1.blk.free 1
  have hl := (hd1.map.below ((Below.refl _ W).drew)).look Tryd.underlying74 Tryd.underlying9 (zero_file _) n hn
  rw [← hfo] at hl
  rw [show fileV fo = .agg #[.string (crcm.mk fo.1), .int .i64 (fo.2 : Int)] from rfl, keyV] at hl
  rw [← hT] at q1
  have hfl := field_s (crcm.mk fo.1) (fo.2 : Int) W.drew
  go_enter Tryd.func52, Tryd.ntmps52
  go_wp2_with fail
  rw [← hW]
  have HT' : Hid (T' = vd.total (vd.put d.files n f)) := hT'
  clear hW htp hf hT hF hO hfo hT'
  go_region
  obtain ⟨W2, hW2⟩ : ∃ W2, (W.setCell ⟨p, 1, none⟩ (.int .i64 (T' : Int))).drew = W2 := ⟨_, rfl⟩
  have hA2 : Apart [p] W W2 := by rw [← hW2]; exact (Apart.setCell W p 1 _).trans (.drew _ _)
  have hv2 : Vb W2 p (diskV b { d with files := vd.put d.files n f }) 76 := by
    have := hd1.blk.set 1 (.int .i64 (T' : Int))
    rw [HT'.out] at this
    rw [← hW2, HT'.out]; exact this
  have hm2 : FMap W2 b d.files := hd1.map.apart hA2 (by simp; exact fun e => hpb e.symm)
  have hB2 : Vb W2 w.heap.size [.string (crcm.mk f.1), .int .i64 (f.2 : Int)] 96 := hB1.apart hA2 (by simp; omega)
  rw [hW2]
  clear hW2 c0 c1 q1 q2 z1 hl hfl
  have c0 := hB2.cell 0 _ rfl
  have c1 := hB2.cell 1 _ rfl
  have q2 := hv2.cell 2 _ rfl
  have hsz2 := hA2.size
  obtain ⟨W3, hu, hM3, hg3, hsb3⟩ := (hm2.below ((Below.refl _ W2).drew)).update Tryd.underlying74 Tryd.underlying9 n f hn
  rw [keyV, show fileV f = .agg #[.string (crcm.mk f.1), .int .i64 (f.2 : Int)] from rfl] at hu
  have hA3 : Apart [p, b] W2 W3 := (Apart.drew W2 _).trans ((Apart.of_grown hg3).mono (by simp))
  have hd3 : Dk W3 p b { d with files := vd.put d.files n f } := ⟨hv2.apart ((Apart.drew W2 [b]).trans (.of_grown hg3)) (by simp; exact hpb), hM3⟩
  have hA3' := (hA1.trans (hA2.mono (by simp))).trans hA3
  have q3 := hd3.blk.cell 2 _ rfl
  go_wp2_with fail
  go_region
  cases gone with
  | false =>
    go_wp2_with fail
    go_end0
    exact ⟨rfl, hd3, hA3', fun hh => (SameBorn.of_eq (hb1.block b hbl)).trans ((SameBorn.of_eq (hA2.block b (by omega) (by simp; exact fun e => hpb e.symm))).trans (hsb3 hh))⟩
  | true =>
    obtain ⟨W4, hdl, hM4, hg4⟩ := hM3.delete Tryd.underlying74 Tryd.underlying9 0 n hn
    rw [keyV] at hdl
    have hd4 : Dk W4 p b { d with files := vd.setF d.files n f true } := by
      refine ⟨?_, hM4⟩
      have h1 := hd3.blk.apart (Apart.of_grown hg4) (by simp; exact hpb)
      have h2 := vd.total_del (vd.put d.files n f) n
      rw [vd.at_put, if_pos rfl, hg rfl] at h2
      have h3 : vd.total (vd.setF d.files n f true) = vd.total (vd.put d.files n f) := by simpa [vd.setF] using h2
      unfold diskV at h1 ⊢
      rw [h3]
      exact h1
    have hA4 := hA3'.trans ((Apart.of_grown hg4).mono (by simp))
    go_wp2_with fail
    go_end0
    exact ⟨rfl, hd4, hA4⟩
end Go.Proofs.YtdnoeahhidmkbaaDoor
