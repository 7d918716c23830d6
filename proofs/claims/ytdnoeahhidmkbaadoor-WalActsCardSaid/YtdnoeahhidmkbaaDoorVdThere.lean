/- there: act with a file that has to be there. -/
import Derived.Test.YtdnoeahhidmkbaaDoorVdAct
import Derived.Shelf.Abstract
namespace Go.Proofs.YtdnoeahhidmkbaaDoor
open Go Go.RowKit Go.Lib
set_option maxRecDepth 100000

namespace vd
def there (d : Disk) (n : Name) (f2 : Files) (always : Bool) : Disk × Nat :=
  if nameErr d.off [n] ≠ 0 then (d, nameErr d.off [n]) else if has d.files n then (done d f2 always, doneE d) else (d, 3)
theorem err_zero {off : Bool} {n : Name} (h : nameErr off [n] = 0) : off = false ∧ good n = true := by
  unfold nameErr at h
  cases ho : off with
  | true => rw [ho] at h; simp at h
  | false =>
    rw [ho] at h
    cases hgd : good n with
    | true => exact ⟨rfl, rfl⟩
    | false => simp [hgd] at h
end vd
theorem enters_any {f : FuncId} {fn : Func} {c : Code} (hf : Tryd.prog.funcs[f]? = some fn) (hname : (fn.name == "runtime.NumGoroutine") = false) (hb : fn.body = some c) : ∀ args w, (callFunc f args).run Tryd.prog w = .ok (.enter f args) w := by
  intro args w
  have h1 : fn.name ≠ "runtime.NumGoroutine" := by simpa using hname
  simp [callFunc, hf, h1, hb, mark]
set_option maxHeartbeats 4000000 in
theorem vd_there1 {w : World} {g h : Nat} {F : Nat} {caps : Array Value} {f : vd.File} {R : Ending → World → Prop} (eg : ∀ args w, (callFunc F args).run Tryd.prog w = .ok (.enter F args) w)
    (hg : Vb w g [.func (.func F) #[] caps] 118) (hh : Vb w h [.string (crcm.mk f.1), .int .i64 (f.2 : Int)] 96)
    (hf : Calls Tryd.prog F (#[fileV f] ++ caps) w (fun e w2 => e = .returned (.tuple #[]) ∧ R e w2)) :
    Calls Tryd.prog 91 #[.pointer (some ⟨g, 0, none⟩), .pointer (some ⟨h, 0, none⟩)] w (fun e w2 => e = .returned (.tuple #[]) ∧ R e w2) := by
  have q0 := hg.cell 0 _ rfl
  have q1 := hh.cell 0 _ rfl
  have q2 := hh.cell 1 _ rfl
  unfold fileV at hf
  go_enter Tryd.func91, Tryd.ntmps91
  go_wp2_with fail
  refine hf.mono ?_
  rintro e w2 ⟨rfl, hr⟩
  go_wp2_with fail
  go_end0
  exact ⟨rfl, hr⟩
set_option maxHeartbeats 4000000 in
theorem vd_there {w : World} {p b : Nat} {d : vd.Disk} (n : vd.Name) (f2 : vd.Files) (always : Bool) (F : Nat) (caps : Array Value) (hn : n.length ≤ maxLen) (hd : Dk w p b d) (ho : vd.Ok d) (eg : ∀ args w, (callFunc F args).run Tryd.prog w = .ok (.enter F args) w)
    (ho2 : vd.has d.files n = true → vd.nameErr d.off [n] = 0 → vd.Ok { d with files := f2 })
    (hf : vd.has d.files n = true → vd.nameErr d.off [n] = 0 → ∀ w1, Dk w1 p b (vd.less d) → Apart [p] w w1 → Calls Tryd.prog F (#[fileV (vd.at_ d.files n)] ++ caps) w1 (fun e w2 => e = .returned (.tuple #[]) ∧ Dk w2 p b { vd.less d with files := f2 } ∧ Apart [p, b] w1 w2)) :
    Calls Tryd.prog 69 #[dptr p, keyV n, .bool always, .func (.func F) #[] caps] w (fun e w' => e = .returned (.int .i64 ((vd.there d n f2 always).2 : Nat)) ∧ Dk w' p b (vd.there d n f2 always).1 ∧ Apart [p, b] w w') := by
  have hpb := hd.ne
  have hpl := hd.blk.lt
  have hbl := hd.map.lt
  obtain ⟨W, hW⟩ : ∃ W, (w.alloc (.cells #[.func (.func F) #[] caps] 118)).alloc (.cells #[.string (crcm.mk n)] 9) = W := ⟨_, rfl⟩
  have hb1 : Below w.heap.size w (w.alloc (.cells #[.func (.func F) #[] caps] 118)) := (Below.refl _ w).alloc (Nat.le_refl _) _
  have hs1 : (w.alloc (.cells #[.func (.func F) #[] caps] 118)).heap.size = w.heap.size + 1 := Array.size_push _
  have hb2 : Below (w.heap.size + 1) (w.alloc (.cells #[.func (.func F) #[] caps] 118)) W := by rw [← hW]; exact (Below.refl _ _).alloc (by rw [hs1]; omega) _
  have hs2 : W.heap.size = w.heap.size + 2 := by rw [← hW]; show (Array.push _ _).size = _; rw [Array.size_push, hs1]
  have hbW : Below w.heap.size w W := hb1.trans (hb2.mono (by omega))
  have hv0 : Vb W w.heap.size [.func (.func F) #[] caps] 118 := (hb2.block _ (by omega)).trans (Vb.new w _ _)
  have hv1 : Vb W (w.heap.size + 1) [.string (crcm.mk n)] 9 := by
    have := Vb.new (w.alloc (.cells #[.func (.func F) #[] caps] 118)) [.string (crcm.mk n)] 9
    rw [hs1] at this
    rw [← hW]; exact this
  have hdW : Dk W p b d := ⟨(hbW.block p hpl).trans hd.blk, hd.map.below hbW⟩
  have hst : Strs W (.slice (some ⟨w.heap.size + 1, 0, none⟩) 1 1) [n] := ⟨some ⟨w.heap.size + 1, 0, none⟩, 1, rfl, fun k hk => by
    obtain rfl : k = 0 := by simp at hk; omega
    exact ⟨_, rfl, hv1.cell 0 _ rfl⟩⟩
  have hcn := vd_named hdW _ [n] hst (by simp) (by simp; exact hn)
  have hl := hdW.map.look_ok Tryd.underlying74 Tryd.underlying9 (zero_file _) n hn
  have q2 := hdW.blk.cell 2 _ rfl
  have e91 := enters_any (f := 91) Tryd.func91 (by kernel_rfl) rfl
  obtain ⟨g, hg⟩ : ∃ g, vd.at_ d.files n = g := ⟨_, rfl⟩
  obtain ⟨er, her⟩ : ∃ er, vd.nameErr d.off [n] = er := ⟨_, rfl⟩
  rw [hg] at hl hf
  rw [her] at hcn
  rw [show fileV g = .agg #[.string (crcm.mk g.1), .int .i64 (g.2 : Int)] from rfl, keyV] at hl
  obtain ⟨W3, hW3⟩ : ∃ W3, W.alloc (.cells #[.string (crcm.mk g.1), .int .i64 (g.2 : Int)] 96) = W3 := ⟨_, rfl⟩
  have hb3 : Below W.heap.size W W3 := by rw [← hW3]; exact (Below.refl _ _).alloc (Nat.le_refl _) _
  have hv2 : Vb W3 W.heap.size [.string (crcm.mk g.1), .int .i64 (g.2 : Int)] 96 := by rw [← hW3]; exact Vb.new W _ _
  have hv3 : Vb W3 w.heap.size [.func (.func F) #[] caps] 118 := (hb3.block _ (by omega)).trans hv0
  have hd3 : Dk W3 p b d := ⟨(hb3.block p (by omega)).trans hdW.blk, hdW.map.below hb3⟩
  have hA3 : Apart [p, b] w W3 := .of_below (hbW.trans (hb3.mono (by omega))) _
  have hres : vd.there d n f2 always = if er ≠ 0 then (d, er) else if vd.has d.files n then (vd.done d f2 always, vd.doneE d) else (d, 3) := by rw [← her]; rfl
  have hgood : er = 0 → vd.nameErr d.off [n] = 0 := fun h => her.trans h
  have hact : vd.has d.files n = true → er = 0 → Calls Tryd.prog 88 #[dptr p, .bool always, .func (.func 91) #[] #[.pointer (some ⟨w.heap.size, 0, none⟩), .pointer (some ⟨W.heap.size, 0, none⟩)]] W3 (fun e w' => e = .returned (.int .i64 (vd.doneE d : Nat)) ∧ Dk w' p b (vd.done d f2 always) ∧ Apart [p, b] W3 w') := by
    intro hh he
    refine vd_act f2 always _ _ hd3 ho (ho2 hh (hgood he)) e91 ?_
    intro w1 h1 hA1
    refine vd_there1 eg (hv3.apart hA1 (by simp; omega)) (hv2.apart hA1 (by simp; omega)) ?_
    refine (hf hh (hgood he) w1 h1 ?_)
    exact (Apart.of_below (hbW.trans (hb3.mono (by omega))) [p]).trans hA1
  have HR := Lib.hid hres
  have HACT := Lib.hid hact
  have HD := Lib.hid hd3
  have HDW := Lib.hid hdW
  clear hres hact hf ho2 hd3 hdW hv3 hv2 hb3 hst hv1 hv0 hb2 hb1 hs1 hgood hg her ho hd hn e91 eg
  unfold dptr keyV
  unfold dptr at hcn
  go_enter Tryd.func69, Tryd.ntmps69
  go_wp2_with fail
  refine hcn.mono ?_
  rintro e w2 ⟨rfl, rfl⟩
  clear hcn hW
  by_cases he : er = 0
  · subst he
    cases hh : vd.has d.files n with
    | true =>
      have hact := HACT.out hh rfl
      rw [hh] at hl
      unfold dptr at hact
      rw [hs2] at hact
      go_wp2_with fail
      refine hact.mono ?_
      rintro e w4 ⟨rfl, hd4, hA4⟩
      go_wp2_with fail
      go_ret
      rw [HR.out, hh]
      exact ⟨rfl, hd4, hA3.trans hA4⟩
    | false =>
      rw [hh] at hl
      go_wp2_with fail
      go_ret
      rw [HR.out, hh]
      exact ⟨rfl, HD.out, hA3⟩
  · have hei : ¬ (er : Int) = 0 := by omega
    clear hl
    go_wp2_with fail
    go_ret
    rw [HR.out, if_pos he]
    exact ⟨rfl, HDW.out, .of_below hbW _⟩
end Go.Proofs.YtdnoeahhidmkbaaDoor
