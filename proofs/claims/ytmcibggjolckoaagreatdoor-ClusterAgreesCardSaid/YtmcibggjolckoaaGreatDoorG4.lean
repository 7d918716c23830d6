/- VdThere, VdClos: one behind the other. -/
import Derived.Test.YtmcibggjolckoaaGreatDoorG3
import Derived.Shelf.Abstract
namespace Go.Proofs.YtmcibggjolckoaaGreatDoor
open Go Go.RowKit Go.Lib
set_option maxRecDepth 100000

namespace vd
def there (d : Disk) (n : Name) (f2 : Files) (always : Bool) : Disk × Nat :=
  if nameErr d.off [n] ≠ 0 then (d, nameErr d.off [n]) else if has d.files n then (done d f2 always, doneE d) else (d, 3)
theorem err_zero {off : Bool} {n : Name} (h : nameErr off [n] = 0) : off = false ∧ good n = true := by
  unfold nameErr at h
  cases ho : off with
  | true => rw [ho] at h; simp at h
  | false =>
    rw [ho] at h
    cases hgd : good n with
    | true => exact ⟨rfl, rfl⟩
    | false => simp [hgd] at h
end vd
theorem enters_any {f : FuncId} {fn : Func} {c : Code} (hf : Tryz.prog.funcs[f]? = some fn) (hname : (fn.name == "runtime.NumGoroutine") = false) (hb : fn.body = some c) : ∀ args w, (callFunc f args).run Tryz.prog w = .ok (.enter f args) w := by
  intro args w
  have h1 : fn.name ≠ "runtime.NumGoroutine" := by simpa using hname
  simp [callFunc, hf, h1, hb, mark]
set_option maxHeartbeats 4000000 in
theorem vd_there1 {w : World} {g h : Nat} {F : Nat} {caps : Array Value} {f : vd.File} {R : Ending → World → Prop} (eg : ∀ args w, (callFunc F args).run Tryz.prog w = .ok (.enter F args) w)
    (hg : Vb w g [.func (.func F) #[] caps] 145) (hh : Vb w h [.string (crcm.mk f.1), .int .i64 (f.2 : Int)] 124)
    (hf : Calls Tryz.prog F (#[fileV f] ++ caps) w (fun e w2 => e = .returned (.tuple #[]) ∧ R e w2)) :
    Calls Tryz.prog 117 #[.pointer (some ⟨g, 0, none⟩), .pointer (some ⟨h, 0, none⟩)] w (fun e w2 => e = .returned (.tuple #[]) ∧ R e w2) := by
  have q0 := hg.cell 0 _ rfl
  have q1 := hh.cell 0 _ rfl
  have q2 := hh.cell 1 _ rfl
  unfold fileV at hf
  go_enter Tryz.func117, Tryz.ntmps117
  go_wp2_with fail
  refine hf.mono ?_
  rintro e w2 ⟨rfl, hr⟩
  go_wp2_with fail
  go_end0
  exact ⟨rfl, hr⟩
set_option maxHeartbeats 4000000 in
theorem vd_there {w : World} {p b : Nat} {d : vd.Disk} (n : vd.Name) (f2 : vd.Files) (always : Bool) (F : Nat) (caps : Array Value) (hn : n.length ≤ maxLen) (hd : Dk w p b d) (ho : vd.Ok d) (eg : ∀ args w, (callFunc F args).run Tryz.prog w = .ok (.enter F args) w)
    (ho2 : vd.has d.files n = true → vd.nameErr d.off [n] = 0 → vd.Ok { d with files := f2 })
    (hf : vd.has d.files n = true → vd.nameErr d.off [n] = 0 → ∀ w1, Dk w1 p b (vd.less d) → Apart [p] w w1 → Calls Tryz.prog F (#[fileV (vd.at_ d.files n)] ++ caps) w1 (fun e w2 => e = .returned (.tuple #[]) ∧ Dk w2 p b { vd.less d with files := f2 } ∧ Apart [p, b] w1 w2)) :
    Calls Tryz.prog 101 #[dptr p, keyV n, .bool always, .func (.func F) #[] caps] w (fun e w' => e = .returned (.int .i64 ((vd.there d n f2 always).2 : Nat)) ∧ Dk w' p b (vd.there d n f2 always).1 ∧ Apart [p, b] w w') := by
  have hpb := hd.ne
  have hpl := hd.blk.lt
  have hbl := hd.map.lt
  obtain ⟨W, hW⟩ : ∃ W, (w.alloc (.cells #[.func (.func F) #[] caps] 145)).alloc (.cells #[.string (crcm.mk n)] 9) = W := ⟨_, rfl⟩
  have hb1 : Below w.heap.size w (w.alloc (.cells #[.func (.func F) #[] caps] 145)) := (Below.refl _ w).alloc (Nat.le_refl _) _
  have hs1 : (w.alloc (.cells #[.func (.func F) #[] caps] 145)).heap.size = w.heap.size + 1 := Array.size_push _
  have hb2 : Below (w.heap.size + 1) (w.alloc (.cells #[.func (.func F) #[] caps] 145)) W := by rw [← hW]; exact (Below.refl _ _).alloc (by rw [hs1]; omega) _
  have hs2 : W.heap.size = w.heap.size + 2 := by rw [← hW]; show (Array.push _ _).size = _; rw [Array.size_push, hs1]
  have hbW : Below w.heap.size w W := hb1.trans (hb2.mono (by omega))
  have hv0 : Vb W w.heap.size [.func (.func F) #[] caps] 145 := (hb2.block _ (by omega)).trans (Vb.new w _ _)
  have hv1 : Vb W (w.heap.size + 1) [.string (crcm.mk n)] 9 := by
    have := Vb.new (w.alloc (.cells #[.func (.func F) #[] caps] 145)) [.string (crcm.mk n)] 9
    rw [hs1] at this
    rw [← hW]; exact this
  have hdW : Dk W p b d := ⟨(hbW.block p hpl).trans hd.blk, hd.map.below hbW⟩
  have hst : Strs W (.slice (some ⟨w.heap.size + 1, 0, none⟩) 1 1) [n] := ⟨some ⟨w.heap.size + 1, 0, none⟩, 1, rfl, fun k hk => by
    obtain rfl : k = 0 := by simp at hk; omega
    exact ⟨_, rfl, hv1.cell 0 _ rfl⟩⟩
  have hcn := vd_named hdW _ [n] hst (by simp) (by simp; exact hn)
  have hl := hdW.map.look_ok Tryz.underlying88 Tryz.underlying9 (zero_file _) n hn
  have q2 := hdW.blk.cell 2 _ rfl
  have e91 := enters_any (f := 117) Tryz.func117 (by kernel_rfl) rfl
  obtain ⟨g, hg⟩ : ∃ g, vd.at_ d.files n = g := ⟨_, rfl⟩
  obtain ⟨er, her⟩ : ∃ er, vd.nameErr d.off [n] = er := ⟨_, rfl⟩
  rw [hg] at hl hf
  rw [her] at hcn
  rw [show fileV g = .agg #[.string (crcm.mk g.1), .int .i64 (g.2 : Int)] from rfl, keyV] at hl
  obtain ⟨W3, hW3⟩ : ∃ W3, W.alloc (.cells #[.string (crcm.mk g.1), .int .i64 (g.2 : Int)] 124) = W3 := ⟨_, rfl⟩
  have hb3 : Below W.heap.size W W3 := by rw [← hW3]; exact (Below.refl _ _).alloc (Nat.le_refl _) _
  have hv2 : Vb W3 W.heap.size [.string (crcm.mk g.1), .int .i64 (g.2 : Int)] 124 := by rw [← hW3]; exact Vb.new W _ _
  have hv3 : Vb W3 w.heap.size [.func (.func F) #[] caps] 145 := (hb3.block _ (by omega)).trans hv0
  have hd3 : Dk W3 p b d := ⟨(hb3.block p (by omega)).trans hdW.blk, hdW.map.below hb3⟩
  have hA3 : Apart [p, b] w W3 := .of_below (hbW.trans (hb3.mono (by omega))) _
  have hres : vd.there d n f2 always = if er ≠ 0 then (d, er) else if vd.has d.files n then (vd.done d f2 always, vd.doneE d) else (d, 3) := by rw [← her]; rfl
  have hgood : er = 0 → vd.nameErr d.off [n] = 0 := fun h => her.trans h
  have hact : vd.has d.files n = true → er = 0 → Calls Tryz.prog 113 #[dptr p, .bool always, .func (.func 117) #[] #[.pointer (some ⟨w.heap.size, 0, none⟩), .pointer (some ⟨W.heap.size, 0, none⟩)]] W3 (fun e w' => e = .returned (.int .i64 (vd.doneE d : Nat)) ∧ Dk w' p b (vd.done d f2 always) ∧ Apart [p, b] W3 w') := by
    intro hh he
    refine vd_act f2 always _ _ hd3 ho (ho2 hh (hgood he)) e91 ?_
    intro w1 h1 hA1
    refine vd_there1 eg (hv3.apart hA1 (by simp; omega)) (hv2.apart hA1 (by simp; omega)) ?_
    refine (hf hh (hgood he) w1 h1 ?_)
    exact (Apart.of_below (hbW.trans (hb3.mono (by omega))) [p]).trans hA1
  have HR := Lib.hid hres
  have HACT := Lib.hid hact
  have HD := Lib.hid hd3
  have HDW := Lib.hid hdW
  clear hres hact hf ho2 hd3 hdW hv3 hv2 hb3 hst hv1 hv0 hb2 hb1 hs1 hgood hg her ho hd hn e91 eg
  unfold dptr keyV
  unfold dptr at hcn
  go_enter Tryz.func101, Tryz.ntmps101
  go_wp2_with fail
  refine hcn.mono ?_
  rintro e w2 ⟨rfl, rfl⟩
  clear hcn hW
  by_cases he : er = 0
  · subst he
    cases hh : vd.has d.files n with
    | true =>
      have hact := HACT.out hh rfl
      rw [hh] at hl
      unfold dptr at hact
      rw [hs2] at hact
      go_wp2_with fail
      refine hact.mono ?_
      rintro e w4 ⟨rfl, hd4, hA4⟩
      go_wp2_with fail
      go_ret
      rw [HR.out, hh]
      exact ⟨rfl, hd4, hA3.trans hA4⟩
    | false =>
      rw [hh] at hl
      go_wp2_with fail
      go_ret
      rw [HR.out, hh]
      exact ⟨rfl, HD.out, hA3⟩
  · have hei : ¬ (er : Int) = 0 := by omega
    clear hl
    go_wp2_with fail
    go_ret
    rw [HR.out, if_pos he]
    exact ⟨rfl, HDW.out, .of_below hbW _⟩
end Go.Proofs.YtmcibggjolckoaaGreatDoor
namespace Go.Proofs.YtmcibggjolckoaaGreatDoor
open Go Go.RowKit Go.Lib
set_option maxRecDepth 100000

section
variable {w : World} {p b gD gN gM gS : Nat} {d : vd.Disk} {n m : vd.Name} {f : vd.File}
theorem fileV_eq (f : vd.File) : fileV f = .agg #[.string (crcm.mk f.1), .int .i64 (f.2 : Int)] := rfl
theorem empty_file : fileV ([], 0) = .agg #[.string ByteArray.empty, .int .i64 0] := rfl
set_option maxHeartbeats 4000000 in
theorem vd_create1 (hd : Dk w p b d) (hD : Vb w gD [dptr p] 57) (hN : Vb w gN [keyV n] 9) (hn : n.length ≤ maxLen) (hc : d.cap ≤ 1000000000) (ht : vd.total d.files ≤ d.cap) :
    Calls Tryz.prog 114 #[.pointer (some ⟨gD, 0, none⟩), .pointer (some ⟨gN, 0, none⟩)] w (fun e w2 => e = .returned (.tuple #[]) ∧ Dk w2 p b { d with files := vd.put d.files n ([], 0) } ∧ Apart [p, b] w w2) := by
  have q0 := hD.cell 0 _ rfl
  have q1 := hN.cell 0 _ rfl
  have hs := vd_set n ([], 0) false hd hn hc ht (by simp; omega) (fun h => by cases h)
  rw [empty_file] at hs
  unfold dptr at q0
  unfold keyV at q1 hs
  go_enter Tryz.func114, Tryz.ntmps114
  go_wp2_with fail
  refine hs.mono ?_
  rintro e w2 ⟨rfl, h1, h2, _⟩
  go_wp2_with fail
  go_end0
  exact ⟨rfl, h1, h2⟩
set_option maxHeartbeats 4000000 in
theorem vd_delete1 (hd : Dk w p b d) (hD : Vb w gD [dptr p] 57) (hN : Vb w gN [keyV n] 9) (hn : n.length ≤ maxLen) (hc : d.cap ≤ 1000000000) (ht : vd.total d.files ≤ d.cap) (hh : vd.has d.files n = true) :
    Calls Tryz.prog 112 #[fileV f, .pointer (some ⟨gD, 0, none⟩), .pointer (some ⟨gN, 0, none⟩)] w (fun e w2 => e = .returned (.tuple #[]) ∧ Dk w2 p b { d with files := vd.del d.files n } ∧ Apart [p, b] w w2) := by
  obtain ⟨W, hW⟩ : ∃ W, w.alloc (.cells #[.string (crcm.mk f.1), .int .i64 (f.2 : Int)] 124) = W := ⟨_, rfl⟩
  have hb1 : Below w.heap.size w W := by rw [← hW]; exact (Below.refl _ w).alloc (Nat.le_refl _) _
  have hA1 := Apart.of_below hb1 [p, b]
  have hd1 : Dk W p b d := ⟨(hb1.block p hd.blk.lt).trans hd.blk, hd.map.below hb1⟩
  have q0 := (show Vb W gD _ _ from (hb1.block _ hD.lt).trans hD).cell 0 _ rfl
  have q1 := (show Vb W gN _ _ from (hb1.block _ hN.lt).trans hN).cell 0 _ rfl
  have hs := vd_set n ([], 0) true hd1 hn hc ht (by simp; omega) (fun _ => rfl)
  rw [empty_file] at hs
  have hdp : vd.setF d.files n ([], 0) true = vd.del d.files n := vd.del_put _ _ _ hh
  rw [hdp] at hs
  unfold dptr at q0
  unfold keyV at q1 hs
  rw [fileV_eq]
  go_enter Tryz.func112, Tryz.ntmps112
  go_wp2_with fail
  refine hs.mono ?_
  rintro e w2 ⟨rfl, h1, h2, _⟩
  go_wp2_with fail
  go_end0
  exact ⟨rfl, h1, hA1.trans h2⟩
set_option maxHeartbeats 4000000 in
theorem vd_sync1 (hd : Dk w p b d) (hD : Vb w gD [dptr p] 57) (hN : Vb w gN [keyV n] 9) (hn : n.length ≤ maxLen) (hc : d.cap ≤ 1000000000) (ht : vd.total d.files ≤ d.cap) (ha : vd.at_ d.files n = f) :
    Calls Tryz.prog 102 #[fileV f, .pointer (some ⟨gD, 0, none⟩), .pointer (some ⟨gN, 0, none⟩)] w (fun e w2 => e = .returned (.tuple #[]) ∧ Dk w2 p b { d with files := vd.put d.files n (f.1, f.1.length) } ∧ Apart [p, b] w w2) := by
  obtain ⟨L, hL⟩ : ∃ L, f.1.length = L := ⟨_, rfl⟩
  have hsz : (crcm.mk f.1).size = L := by rw [crcm.mk_size, hL]
  obtain ⟨W, hW⟩ : ∃ W, w.alloc (.cells #[.string (crcm.mk f.1), .int .i64 (L : Int)] 124) = W := ⟨_, rfl⟩
  have hb1 : Below w.heap.size w W := by rw [← hW]; exact (Below.refl _ w).alloc (Nat.le_refl _) _
  have hA1 := Apart.of_below hb1 [p, b]
  have hd1 : Dk W p b d := ⟨(hb1.block p hd.blk.lt).trans hd.blk, hd.map.below hb1⟩
  have q0 := (show Vb W gD _ _ from (hb1.block _ hD.lt).trans hD).cell 0 _ rfl
  have q1 := (show Vb W gN _ _ from (hb1.block _ hN.lt).trans hN).cell 0 _ rfl
  have hvW : Vb W w.heap.size [.string (crcm.mk f.1), .int .i64 (L : Int)] 124 := by rw [← hW]; exact Vb.new w _ _
  have q2 := hvW.cell 0 _ rfl
  have q3 := hvW.cell 1 _ rfl
  have hs := vd_set n (f.1, L) false hd1 hn hc ht (by rw [ha]; show _ + f.1.length ≤ f.1.length + _; omega) (fun h => by cases h)
  rw [fileV_eq] at hs
  unfold dptr at q0
  unfold keyV at q1 hs
  rw [fileV_eq]
  clear ha
  go_enter Tryz.func102, Tryz.ntmps102
  go_wp2_with fail
  refine hs.mono ?_
  rintro e w2 ⟨rfl, h1, h2, _⟩
  go_wp2_with fail
  go_end0
  exact ⟨rfl, by rw [hL]; exact h1, hA1.trans h2⟩
set_option maxHeartbeats 4000000 in
theorem vd_append1 {s : List UInt8} (hd : Dk w p b d) (hS : Vb w gS [.string (crcm.mk s)] 9) (hD : Vb w gD [dptr p] 57) (hN : Vb w gN [keyV n] 9) (hn : n.length ≤ maxLen) (hc : d.cap ≤ 1000000000) (ht : vd.total d.files ≤ d.cap) (ha : vd.at_ d.files n = f) (hsp : vd.total d.files + s.length ≤ d.cap) :
    Calls Tryz.prog 115 #[fileV f, .pointer (some ⟨gS, 0, none⟩), .pointer (some ⟨gD, 0, none⟩), .pointer (some ⟨gN, 0, none⟩)] w (fun e w2 => e = .returned (.tuple #[]) ∧ Dk w2 p b { d with files := vd.put d.files n (f.1 ++ s, f.2) } ∧ Apart [p, b] w w2) := by
  have htd := vd.total_del d.files n
  rw [ha] at htd
  have hcat : crcm.mk f.1 ++ crcm.mk s = crcm.mk (f.1 ++ s) := crcm.mk_append _ _
  have hz1 : (crcm.mk f.1).size = f.1.length := crcm.mk_size _
  have hz2 : (crcm.mk s).size = s.length := crcm.mk_size _
  obtain ⟨L, hL⟩ : ∃ L, f.1.length = L := ⟨_, rfl⟩
  obtain ⟨L2, hL2⟩ : ∃ L, s.length = L := ⟨_, rfl⟩
  have hno : ¬ 9223372036854775807 < L + L2 := by omega
  obtain ⟨W0, hW0⟩ : ∃ W, w.alloc (.cells #[.string (crcm.mk f.1), .int .i64 (f.2 : Int)] 124) = W := ⟨_, rfl⟩
  have hb0 : Below w.heap.size w W0 := by rw [← hW0]; exact (Below.refl _ w).alloc (Nat.le_refl _) _
  have hv0 : Vb W0 w.heap.size [.string (crcm.mk f.1), .int .i64 (f.2 : Int)] 124 := by rw [← hW0]; exact Vb.new w _ _
  obtain ⟨W, hW⟩ : ∃ W, W0.setCell ⟨w.heap.size, 0, none⟩ (.string (crcm.mk (f.1 ++ s))) = W := ⟨_, rfl⟩
  have hb1 : Below w.heap.size w W := by rw [← hW]; exact hb0.trans ((Apart.setCell W0 w.heap.size 0 _).below _ hb0.size (by simp))
  have hv1 : Vb W w.heap.size [.string (crcm.mk (f.1 ++ s)), .int .i64 (f.2 : Int)] 124 := by rw [← hW]; exact hv0.set 0 _
  have p0 := hv0.cell 0 _ rfl
  have p1 := hv0.free 0
  have p2 := hv1.cell 0 _ rfl
  have p3 := hv1.cell 1 _ rfl
  have hA1 := Apart.of_below hb1 [p, b]
  have hd1 : Dk W p b d := ⟨(hb1.block p hd.blk.lt).trans hd.blk, hd.map.below hb1⟩
  have q0 := (show Vb W gD _ _ from (hb1.block _ hD.lt).trans hD).cell 0 _ rfl
  have q1 := (show Vb W gN _ _ from (hb1.block _ hN.lt).trans hN).cell 0 _ rfl
  have qs := (show Vb W0 gS _ _ from (hb0.block _ hS.lt).trans hS).cell 0 _ rfl
  have hs := vd_set n (f.1 ++ s, f.2) false hd1 hn hc ht (by rw [ha]; show _ + (f.1 ++ s).length ≤ f.1.length + _; rw [List.length_append]; omega) (fun h => by cases h)
  rw [fileV_eq] at hs
  rw [hL] at hz1
  rw [hL2] at hz2
  unfold dptr at q0
  unfold keyV at q1 hs
  rw [fileV_eq]
  clear ha hL hL2
  go_enter Tryz.func115, Tryz.ntmps115
  go_wp2_with fail
  refine hs.mono ?_
  rintro e w2 ⟨rfl, h1, h2, _⟩
  go_wp2_with fail
  go_end0
  exact ⟨rfl, h1, hA1.trans h2⟩
set_option maxHeartbeats 4000000 in
theorem vd_rename1 (hd : Dk w p b d) (hD : Vb w gD [dptr p] 57) (hN : Vb w gN [keyV n] 9) (hM : Vb w gM [keyV m] 9) (hn : n.length ≤ maxLen) (hm : m.length ≤ maxLen) (hc : d.cap ≤ 1000000000) (ht : vd.total d.files ≤ d.cap) (hh : vd.has d.files n = true) (ha : vd.at_ d.files n = f) :
    Calls Tryz.prog 116 #[fileV f, .pointer (some ⟨gD, 0, none⟩), .pointer (some ⟨gN, 0, none⟩), .pointer (some ⟨gM, 0, none⟩)] w (fun e w2 => e = .returned (.tuple #[]) ∧ Dk w2 p b { d with files := vd.put (vd.del d.files n) m f } ∧ Apart [p, b] w w2) := by
  obtain ⟨W, hW⟩ : ∃ W, w.alloc (.cells #[.string (crcm.mk f.1), .int .i64 (f.2 : Int)] 124) = W := ⟨_, rfl⟩
  have hb1 : Below w.heap.size w W := by rw [← hW]; exact (Below.refl _ w).alloc (Nat.le_refl _) _
  have hA1 := Apart.of_below hb1 [p, b]
  have hvW : Vb W w.heap.size [.string (crcm.mk f.1), .int .i64 (f.2 : Int)] 124 := by rw [← hW]; exact Vb.new w _ _
  have hpl := hd.blk.lt
  have hbl := hd.map.lt
  have hd1 : Dk W p b d := ⟨(hb1.block p hd.blk.lt).trans hd.blk, hd.map.below hb1⟩
  have vD : Vb W gD _ _ := (hb1.block _ hD.lt).trans hD
  have vN : Vb W gN _ _ := (hb1.block _ hN.lt).trans hN
  have vM : Vb W gM _ _ := (hb1.block _ hM.lt).trans hM
  have hnot : ∀ {g : Nat} {x : Value} {t : TypeId}, Vb w g [x] t → g ∉ [p, b] := by
    intro g x t hg hx
    rcases List.mem_cons.1 hx with rfl | hx
    · have := hd.blk
      unfold Vb at this hg
      rw [hg] at this
      injection this with e
      simp [diskV] at e
    · rcases List.mem_cons.1 hx with rfl | hx
      · obtain ⟨es, c, hb, _⟩ := hd.map
        unfold Vb at hg
        rw [hg] at hb
        cases hb
      · cases hx
  have nD := hnot hD
  have nN := hnot hN
  have nM := hnot hM
  have q0 := vD.cell 0 _ rfl
  have q1 := vN.cell 0 _ rfl
  have hs := vd_set n ([], 0) true hd1 hn hc ht (by simp; omega) (fun _ => rfl)
  rw [empty_file] at hs
  have hdp : vd.setF d.files n ([], 0) true = vd.del d.files n := vd.del_put _ _ _ hh
  rw [hdp] at hs
  have htd := vd.total_del d.files n
  rw [ha] at htd
  have hs2 : Hid (∀ w2, Dk w2 p b { d with files := vd.del d.files n } → Calls Tryz.prog 77 #[dptr p, keyV m, fileV f, .bool false] w2 (fun e w3 => e = .returned (.tuple #[]) ∧ Dk w3 p b { d with files := vd.put (vd.del d.files n) m f } ∧ Apart [p, b] w2 w3)) := Lib.hid fun w2 h2 =>
    (vd_set m f false h2 hm hc (by show vd.total (vd.del d.files n) ≤ d.cap; omega) (by show vd.total (vd.del d.files n) + f.1.length ≤ _ + d.cap; omega) (fun h => by cases h)).mono (by rintro e w3 ⟨h1, h2, h3, _⟩; exact ⟨h1, h2, h3⟩)
  unfold dptr at q0
  unfold keyV at q1 hs
  rw [fileV_eq]
  clear ha htd hdp hnot
  go_enter Tryz.func116, Tryz.ntmps116
  go_wp2_with fail
  refine hs.mono ?_
  rintro e w2 ⟨rfl, h1, h2, _⟩
  have r0 := (vD.apart h2 nD).cell 0 _ rfl
  have r1 := (vM.apart h2 nM).cell 0 _ rfl
  have vF := hvW.apart h2 (by simp; omega)
  have r2 := vF.cell 0 _ rfl
  have r3 := vF.cell 1 _ rfl
  have hs3 := hs2.out w2 h1
  unfold dptr at r0 hs3
  unfold keyV at r1 hs3
  rw [fileV_eq] at hs3
  go_wp2_with fail
  refine hs3.mono ?_
  rintro e w3 ⟨rfl, h3, h4⟩
  go_wp2_with fail
  go_end0
  exact ⟨rfl, h3, (hA1.trans h2).trans h4⟩
end
end Go.Proofs.YtmcibggjolckoaaGreatDoor
