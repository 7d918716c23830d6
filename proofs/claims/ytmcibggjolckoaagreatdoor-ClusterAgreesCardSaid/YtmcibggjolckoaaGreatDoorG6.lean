/- WlSteps, WlRun, WlWrite, StrB: one behind the other. -/
import Derived.Test.YtmcibggjolckoaaGreatDoorG5
import Derived.Deep.RegionHeld3
import Derived.Shelf.Strings.Builder1
import Derived.WalkKit
import Derived.Test.YtmcibggjolckoaaGreatDoorG4
namespace Go.Proofs.YtmcibggjolckoaaGreatDoor
open Go Go.RowKit
set_option maxRecDepth 100000

namespace wl
structure L where
  name : vd.Name
  many : Nat
  off : Bool
end wl
def lgV (p : Nat) (l : wl.L) : List Value := [dptr p, keyV l.name, .int .i64 (l.many : Int), .bool l.off]
abbrev Lg (w : World) (g p : Nat) (l : wl.L) : Prop := Vb w g (lgV p l) 121
section
variable {w : World} {p b gl g go gs : Nat} {d : vd.Disk} {l : wl.L} {n s : List UInt8}
theorem Dk.drew (h : Dk w p b d) : Dk w.drew p b d := ⟨h.blk, h.map.below ((Below.refl _ w).drew)⟩
theorem box_out {g : Nat} {x : Value} {t : TypeId} (h : Vb w g [x] t) (hd : Dk w p b d) : g ∉ [p, b] := by
  intro hx
  rcases List.mem_cons.1 hx with rfl | hx
  · have h1 := hd.blk
    unfold Vb at h1 h
    rw [h] at h1
    injection h1 with e
    simp [diskV] at e
  · rcases List.mem_cons.1 hx with rfl | hx
    · obtain ⟨es, c, hb, _⟩ := hd.map
      unfold Vb at h
      rw [h] at hb
      cases hb
    · cases hx
theorem log_out {g : Nat} {q : Nat} {l : wl.L} (h : Lg w g q l) (hd : Dk w p b d) : g ∉ [p, b] := by
  intro hx
  rcases List.mem_cons.1 hx with rfl | hx
  · have h1 := hd.blk
    unfold Vb at h1
    unfold Lg Vb at h
    rw [h] at h1
    injection h1 with e
    simp [diskV, lgV] at e
  · rcases List.mem_cons.1 hx with rfl | hx
    · obtain ⟨es, c, hb, _⟩ := hd.map
      unfold Lg Vb at h
      rw [h] at hb
      cases hb
    · cases hx
/-- the delete of a file that need not be there -/
def wl.del (d : vd.Disk) (n : vd.Name) : vd.Disk × Nat := ((vd.delete d n).1, if (vd.delete d n).2 = 3 then 0 else (vd.delete d n).2)
set_option maxHeartbeats 4000000 in
theorem wal_w2 (hl : Vb w gl [dptr g] 97) (hg : Lg w g p l) (ho : Vb w go [keyV n] 9) (hd : Dk w p b d) (hok : vd.Ok d) (hn : n.length ≤ maxLen) :
    Calls Tryz.prog 94 #[.pointer (some ⟨gl, 0, none⟩), .pointer (some ⟨go, 0, none⟩)] w (fun e w' => e = .returned (.int .i64 ((vd.create d n).2 : Nat)) ∧ Dk w' p b (vd.create d n).1 ∧ Apart [p, b] w w') := by
  have q0 := hl.cell 0 _ rfl
  have q1 := hg.cell 0 _ rfl
  have q2 := ho.cell 0 _ rfl
  have hc := vd_create n hd.drew hok hn
  have MK : Hid (∀ w', Apart [p, b] w w' → w'.cell? ⟨gl, 0, none⟩ = some (.pointer (some ⟨g, 0, none⟩)) ∧ w'.cell? ⟨g, 0, none⟩ = some (.pointer (some ⟨p, 0, none⟩)) ∧ w'.cell? ⟨go, 0, none⟩ = some (.string (crcm.mk n))) := Lib.hid fun _ h => ⟨(hl.apart h (box_out hl hd)).cell 0 _ rfl, (hg.apart h (log_out hg hd)).cell 0 _ rfl, (ho.apart h (box_out ho hd)).cell 0 _ rfl⟩
  have hW : Apart [p, b] w w.drew := .drew _ _
  clear hok
  unfold dptr keyV at *
  go_enter Tryz.func94, Tryz.ntmps94
  go_wp2_with fail
  go_region_held3 (fun w' => w'.cell? ⟨gl, 0, none⟩ = some (.pointer (some ⟨g, 0, none⟩)) ∧ w'.cell? ⟨g, 0, none⟩ = some (.pointer (some ⟨p, 0, none⟩)) ∧ w'.cell? ⟨go, 0, none⟩ = some (.string (crcm.mk n))) (exact MK.out _ hW) (first | (go_at_call 95; refine hc.mono ?_; rintro e w2 ⟨rfl, h1, h2⟩; have hW := hW.trans h2))
  all_goals (go_wp2; go_ret; exact ⟨rfl, h1, (Apart.drew _ _).trans h2⟩)
set_option maxHeartbeats 4000000 in
theorem wal_w3 (hl : Vb w gl [dptr g] 97) (hg : Lg w g p l) (ho : Vb w go [keyV n] 9) (hs : Vb w gs [.string (crcm.mk s)] 9) (hd : Dk w p b d) (hok : vd.Ok d) (hn : n.length ≤ maxLen) (hsl : s.length ≤ 1000000000) :
    Calls Tryz.prog 96 #[.pointer (some ⟨gl, 0, none⟩), .pointer (some ⟨go, 0, none⟩), .pointer (some ⟨gs, 0, none⟩)] w (fun e w' => e = .returned (.int .i64 ((vd.append d n s).2 : Nat)) ∧ Dk w' p b (vd.append d n s).1 ∧ Apart [p, b] w w') := by
  have q0 := hl.cell 0 _ rfl
  have q1 := hg.cell 0 _ rfl
  have q2 := ho.cell 0 _ rfl
  have q3 := hs.cell 0 _ rfl
  have hc := vd_append n s hd.drew hok hn hsl
  have MK : Hid (∀ w', Apart [p, b] w w' → w'.cell? ⟨gl, 0, none⟩ = some (.pointer (some ⟨g, 0, none⟩)) ∧ w'.cell? ⟨g, 0, none⟩ = some (.pointer (some ⟨p, 0, none⟩)) ∧ w'.cell? ⟨go, 0, none⟩ = some (.string (crcm.mk n)) ∧ w'.cell? ⟨gs, 0, none⟩ = some (.string (crcm.mk s))) := Lib.hid fun _ h => ⟨(hl.apart h (box_out hl hd)).cell 0 _ rfl, (hg.apart h (log_out hg hd)).cell 0 _ rfl, (ho.apart h (box_out ho hd)).cell 0 _ rfl, (hs.apart h (box_out hs hd)).cell 0 _ rfl⟩
  have hW : Apart [p, b] w w.drew := .drew _ _
  clear hok
  unfold dptr keyV at *
  go_enter Tryz.func96, Tryz.ntmps96
  go_wp2_with fail
  go_region_held3 (fun w' => w'.cell? ⟨gl, 0, none⟩ = some (.pointer (some ⟨g, 0, none⟩)) ∧ w'.cell? ⟨g, 0, none⟩ = some (.pointer (some ⟨p, 0, none⟩)) ∧ w'.cell? ⟨go, 0, none⟩ = some (.string (crcm.mk n)) ∧ w'.cell? ⟨gs, 0, none⟩ = some (.string (crcm.mk s))) (exact MK.out _ hW) (first | (go_at_call 97; refine hc.mono ?_; rintro e w2 ⟨rfl, h1, h2⟩; have hW := hW.trans h2))
  all_goals (go_wp2; go_ret; exact ⟨rfl, h1, (Apart.drew _ _).trans h2⟩)
set_option maxHeartbeats 4000000 in
theorem wal_w4 (hl : Vb w gl [dptr g] 97) (hg : Lg w g p l) (ho : Vb w go [keyV n] 9) (hd : Dk w p b d) (hok : vd.Ok d) (hn : n.length ≤ maxLen) :
    Calls Tryz.prog 98 #[.pointer (some ⟨gl, 0, none⟩), .pointer (some ⟨go, 0, none⟩)] w (fun e w' => e = .returned (.int .i64 ((vd.sync d n).2 : Nat)) ∧ Dk w' p b (vd.sync d n).1 ∧ Apart [p, b] w w') := by
  have q0 := hl.cell 0 _ rfl
  have q1 := hg.cell 0 _ rfl
  have q2 := ho.cell 0 _ rfl
  have hc := vd_sync n hd.drew hok hn
  have MK : Hid (∀ w', Apart [p, b] w w' → w'.cell? ⟨gl, 0, none⟩ = some (.pointer (some ⟨g, 0, none⟩)) ∧ w'.cell? ⟨g, 0, none⟩ = some (.pointer (some ⟨p, 0, none⟩)) ∧ w'.cell? ⟨go, 0, none⟩ = some (.string (crcm.mk n))) := Lib.hid fun _ h => ⟨(hl.apart h (box_out hl hd)).cell 0 _ rfl, (hg.apart h (log_out hg hd)).cell 0 _ rfl, (ho.apart h (box_out ho hd)).cell 0 _ rfl⟩
  have hW : Apart [p, b] w w.drew := .drew _ _
  clear hok
  unfold dptr keyV at *
  go_enter Tryz.func98, Tryz.ntmps98
  go_wp2_with fail
  go_region_held3 (fun w' => w'.cell? ⟨gl, 0, none⟩ = some (.pointer (some ⟨g, 0, none⟩)) ∧ w'.cell? ⟨g, 0, none⟩ = some (.pointer (some ⟨p, 0, none⟩)) ∧ w'.cell? ⟨go, 0, none⟩ = some (.string (crcm.mk n))) (exact MK.out _ hW) (first | (go_at_call 75; refine hc.mono ?_; rintro e w2 ⟨rfl, h1, h2⟩; have hW := hW.trans h2))
  all_goals (go_wp2; go_ret; exact ⟨rfl, h1, (Apart.drew _ _).trans h2⟩)
set_option maxHeartbeats 4000000 in
theorem wal_w5 (hl : Vb w gl [dptr g] 97) (hg : Lg w g p l) (ho : Vb w go [keyV n] 9) (hd : Dk w p b d) (hok : vd.Ok d) (hn : n.length ≤ maxLen) (hm : l.name.length ≤ maxLen) :
    Calls Tryz.prog 99 #[.pointer (some ⟨gl, 0, none⟩), .pointer (some ⟨go, 0, none⟩)] w (fun e w' => e = .returned (.int .i64 ((vd.rename d n l.name).2 : Nat)) ∧ Dk w' p b (vd.rename d n l.name).1 ∧ Apart [p, b] w w') := by
  have q0 := hl.cell 0 _ rfl
  have q1 := hg.cell 0 _ rfl
  have q2 := ho.cell 0 _ rfl
  have q1b := hg.cell 1 _ rfl
  have hc := vd_rename n l.name hd.drew hok hn hm
  have MK : Hid (∀ w', Apart [p, b] w w' → w'.cell? ⟨gl, 0, none⟩ = some (.pointer (some ⟨g, 0, none⟩)) ∧ w'.cell? ⟨g, 0, none⟩ = some (.pointer (some ⟨p, 0, none⟩)) ∧ w'.cell? ⟨go, 0, none⟩ = some (.string (crcm.mk n)) ∧ w'.cell? ⟨g, 1, none⟩ = some (.string (crcm.mk l.name))) := Lib.hid fun _ h => ⟨(hl.apart h (box_out hl hd)).cell 0 _ rfl, (hg.apart h (log_out hg hd)).cell 0 _ rfl, (ho.apart h (box_out ho hd)).cell 0 _ rfl, (hg.apart h (log_out hg hd)).cell 1 _ rfl⟩
  have hW : Apart [p, b] w w.drew := .drew _ _
  clear hok
  unfold dptr keyV at *
  go_enter Tryz.func99, Tryz.ntmps99
  go_wp2_with fail
  go_region_held3 (fun w' => w'.cell? ⟨gl, 0, none⟩ = some (.pointer (some ⟨g, 0, none⟩)) ∧ w'.cell? ⟨g, 0, none⟩ = some (.pointer (some ⟨p, 0, none⟩)) ∧ w'.cell? ⟨go, 0, none⟩ = some (.string (crcm.mk n)) ∧ w'.cell? ⟨g, 1, none⟩ = some (.string (crcm.mk l.name))) (exact MK.out _ hW) (first | (go_at_call 100; refine hc.mono ?_; rintro e w2 ⟨rfl, h1, h2⟩; have hW := hW.trans h2))
  all_goals (go_wp2; go_ret; exact ⟨rfl, h1, (Apart.drew _ _).trans h2⟩)
set_option maxHeartbeats 4000000 in
theorem wal_w1 (hl : Vb w gl [dptr g] 97) (hg : Lg w g p l) (ho : Vb w go [keyV n] 9) (hd : Dk w p b d) (hok : vd.Ok d) (hn : n.length ≤ maxLen) :
    Calls Tryz.prog 92 #[.pointer (some ⟨gl, 0, none⟩), .pointer (some ⟨go, 0, none⟩)] w (fun e w' => e = .returned (.int .i64 ((wl.del d n).2 : Nat)) ∧ Dk w' p b (wl.del d n).1 ∧ Apart [p, b] w w') := by
  have q0 := hl.cell 0 _ rfl
  have q1 := hg.cell 0 _ rfl
  have q2 := ho.cell 0 _ rfl
  have hc := vd_delete n hd.drew hok hn
  obtain ⟨er, her⟩ : ∃ er, (vd.delete d n).2 = er := ⟨_, rfl⟩
  have hres : wl.del d n = ((vd.delete d n).1, if er = 3 then 0 else er) := by rw [← her]; rfl
  rw [her] at hc
  clear her
  have MK : Hid (∀ w', Apart [p, b] w w' → w'.cell? ⟨gl, 0, none⟩ = some (.pointer (some ⟨g, 0, none⟩)) ∧ w'.cell? ⟨g, 0, none⟩ = some (.pointer (some ⟨p, 0, none⟩)) ∧ w'.cell? ⟨go, 0, none⟩ = some (.string (crcm.mk n))) := Lib.hid fun _ h => ⟨(hl.apart h (box_out hl hd)).cell 0 _ rfl, (hg.apart h (log_out hg hd)).cell 0 _ rfl, (ho.apart h (box_out ho hd)).cell 0 _ rfl⟩
  have hW : Apart [p, b] w w.drew := .drew _ _
  clear hok
  unfold dptr keyV at *
  go_enter Tryz.func92, Tryz.ntmps92
  go_wp2_with fail
  go_region_held3 (fun w' => w'.cell? ⟨gl, 0, none⟩ = some (.pointer (some ⟨g, 0, none⟩)) ∧ w'.cell? ⟨g, 0, none⟩ = some (.pointer (some ⟨p, 0, none⟩)) ∧ w'.cell? ⟨go, 0, none⟩ = some (.string (crcm.mk n))) (exact MK.out _ hW) (first | (go_at_call 93; refine hc.mono ?_; rintro e w2 ⟨rfl, h1, h2⟩; have hW := hW.trans h2))
  all_goals (
    by_cases h3 : er = 3
    · have h3i : (er : Int) = 3 := by omega
      have HR := Lib.hid (hres.trans (by rw [if_pos h3]) : wl.del d n = ((vd.delete d n).1, 0))
      clear hres
      go_wp2
      go_ret
      rw [HR.out]
      exact ⟨rfl, h1, (Apart.drew _ _).trans h2⟩
    · have h3i : ¬ (er : Int) = 3 := by omega
      have HR := Lib.hid (hres.trans (by rw [if_neg h3]) : wl.del d n = ((vd.delete d n).1, er))
      clear hres
      go_wp2
      go_ret
      rw [HR.out]
      exact ⟨rfl, h1, (Apart.drew _ _).trans h2⟩)
end
end Go.Proofs.YtmcibggjolckoaaGreatDoor
namespace Go.Proofs.YtmcibggjolckoaaGreatDoor
open Go Go.RowKit
set_option maxRecDepth 100000

namespace wl
abbrev Op1 := vd.Disk → vd.Disk × Nat
def run : List Op1 → Op1
  | [], d => (d, 0)
  | f :: r, d => if (f d).2 ≠ 0 then f d else run r (f d).1
end wl
/-- what a step's function does, wherever it is called behind w0 -/
def Step (w0 : World) (p b : Nat) (x : Nat × Array Value × wl.Op1) : Prop :=
  (∀ args w, (callFunc x.1 args).run Tryz.prog w = .ok (.enter x.1 args) w) ∧
  ∀ d w, vd.Ok d → Dk w p b d → Apart [p, b] w0 w → vd.Ok (x.2.2 d).1 ∧
    Calls Tryz.prog x.1 x.2.1 w (fun e w' => e = .returned (.int .i64 ((x.2.2 d).2 : Nat)) ∧ Dk w' p b (x.2.2 d).1 ∧ Apart [p, b] w w')
def stepV (x : Nat × Array Value × wl.Op1) : Value := .func (.func x.1) #[] x.2.1
set_option maxHeartbeats 4000000 in
theorem wal_steps {w : World} {p b G : Nat} {d : vd.Disk} (xs : List (Nat × Array Value × wl.Op1)) (hG : Vb w G (xs.map stepV) 142) (hGo : G ∉ [p, b]) (hx : ∀ x ∈ xs, Step w p b x) (hd : Dk w p b d) (hok : vd.Ok d) (hl : xs.length ≤ 1000) :
    Calls Tryz.prog 91 #[.slice (some ⟨G, 0, none⟩) xs.length xs.length] w (fun e w' => e = .returned (.int .i64 ((wl.run (xs.map (·.2.2)) d).2 : Nat)) ∧ Dk w' p b (wl.run (xs.map (·.2.2)) d).1 ∧ Apart [p, b] w w' ∧ vd.Ok (wl.run (xs.map (·.2.2)) d).1) := by
  obtain ⟨R, hR⟩ : ∃ R, wl.run (xs.map (·.2.2)) d = R := ⟨_, rfl⟩
  rw [hR]
  obtain ⟨n, hn⟩ : ∃ n, xs.length = n := ⟨_, rfl⟩
  rw [hn] at hl ⊢
  have hcell : ∀ k (x : Nat × Array Value × wl.Op1), xs[k]? = some x → ∀ wr, Apart [p, b] w wr → wr.cell? ⟨G, k, none⟩ = some (.func (.func x.1) #[] x.2.1) := fun k x hk wr hA => (hG.apart hA hGo).cell k _ (by rw [List.getElem?_map, hk]; rfl)
  have HC := Lib.hid hcell
  have HN := Lib.hid hn
  have HX := Lib.hid hx
  have HRR := Lib.hid hR
  have hd0 := Lib.hid hd
  have hok0 := Lib.hid hok
  clear hcell hn hx hR hG hGo hd hok
  go_enter Tryz.func91, Tryz.ntmps91
  go_wp2_with fail
  go_loopw [8] (fun i wr => ∃ (k : Nat) (d' : vd.Disk), k ≤ n ∧ i = .int .i64 k ∧ wl.run ((xs.drop k).map (·.2.2)) d' = R ∧ vd.Ok d' ∧ Dk wr p b d' ∧ Apart [p, b] w wr) (fun i _ => n - (intOf i).toNat)
  case atStart => exact ⟨0, d, Nat.zero_le _, rfl, HRR.out, hok0.out, hd0.out, .refl _ _⟩
  case round =>
    obtain ⟨k, d', hk, rfl, hrun, hok, hd, hA⟩ := hrel
    by_cases hlt : k < n
    · obtain ⟨x, hx⟩ : ∃ x, xs[k]? = some x := ⟨xs[k]'(by rw [HN.out]; exact hlt), List.getElem?_eq_getElem (by rw [HN.out]; exact hlt)⟩
      have c0 := HC.out k x hx wr hA
      obtain ⟨e1, e2⟩ := HX.out x (List.mem_of_getElem? hx)
      obtain ⟨hok2, hcall⟩ := e2 d' wr hok hd hA
      have hdr : xs.drop k = x :: xs.drop (k + 1) := by
        obtain ⟨h1, h2⟩ := List.getElem?_eq_some_iff.1 hx
        rw [← h2]; exact List.drop_eq_getElem_cons h1
      rw [hdr] at hrun
      obtain ⟨F, caps, op⟩ := x
      obtain ⟨er, her⟩ : ∃ er, (op d').2 = er := ⟨_, rfl⟩
      have hstep : R = if er ≠ 0 then op d' else wl.run ((xs.drop (k + 1)).map (·.2.2)) (op d').1 := by rw [← her, ← hrun]; rfl
      simp only [her] at hcall
      simp only at c0 e1 hok2
      have HS := Lib.hid hstep
      have HE := Lib.hid her
      have HO := Lib.hid hok2
      have HXX := Lib.hid hx
      clear hstep her hrun hdr hx hok2 hok hd e2
      by_cases h0 : er = 0
      · have hei : (er : Int) = 0 := by omega
        go_wp2_with fail
        refine hcall.mono ?_
        rintro e w2 ⟨rfl, h1, h2⟩
        go_wp2_with fail
        go_roundw
        case rel => exact ⟨k + 1, (op d').1, by omega, by go_num, by rw [HS.out, if_neg (by rw [h0]; simp)], HO.out, h1, hA.trans h2⟩
        case measure => simp [intOf]; omega
      · have hei : ¬ (er : Int) = 0 := by omega
        go_wp2_with fail
        refine hcall.mono ?_
        rintro e w2 ⟨rfl, h1, h2⟩
        go_wp2_with fail
        go_ret
        rw [HS.out, if_pos h0, HE.out]
        exact ⟨rfl, h1, hA.trans h2, HO.out⟩
    · obtain rfl : k = n := by omega
      have hdn : xs.drop k = [] := List.drop_eq_nil_of_le (by rw [HN.out]; exact Nat.le_refl _)
      rw [hdn] at hrun
      have hRd : R = (d', 0) := hrun.symm
      have HRd := Lib.hid hRd
      have HO := Lib.hid hok
      have HDD := Lib.hid hd
      clear hrun hdn hRd hok hd
      go_wp2_with fail
      go_ret
      rw [HRd.out]
      exact ⟨rfl, HDD.out, hA, HO.out⟩
end Go.Proofs.YtmcibggjolckoaaGreatDoor
namespace Go.Proofs.YtmcibggjolckoaaGreatDoor
open Go Go.RowKit
set_option maxRecDepth 100000

namespace vd
theorem ok_left {d : Disk} (h : Ok d) : Ok (less d) := ⟨h.cap, h.tot, h.nod, h.syn, h.nam, by show d.left - 1 ≤ _; have := h.lef; omega⟩
theorem ok_done {d : Disk} {f2 : Files} (h : Ok d) (h2 : Ok { d with files := f2 }) (a : Bool) : Ok (done d f2 a) := by
  have h3 : Ok { less d with files := f2 } := ⟨h2.cap, h2.tot, h2.nod, h2.syn, h2.nam, (ok_left h).lef⟩
  have h4 : Ok (if goes d a then { less d with files := f2 } else less d) := by
    cases goes d a
    · exact ok_left h
    · exact h3
  unfold done
  by_cases h1 : d.left = 1
  · rw [if_pos h1]; exact ok_crash h4 _
  · rw [if_neg h1]; exact h4
theorem ok_there {d : Disk} {n : Name} {f2 : Files} (h : Ok d) (h2 : has d.files n = true → nameErr d.off [n] = 0 → Ok { d with files := f2 }) (a : Bool) : Ok (there d n f2 a).1 := by
  unfold there
  by_cases h1 : nameErr d.off [n] = 0
  · rw [if_neg (by rw [h1]; simp)]
    cases hh : has d.files n with
    | true => exact ok_done h (h2 hh h1) a
    | false => exact h
  · rw [if_pos h1]; exact h
theorem ok_sync {d : Disk} (h : Ok d) (n : Name) : Ok (sync d n).1 :=
  ok_there h (fun _ hg => ok_put h n _ (good_len (err_zero hg).2) (Nat.le_refl _) (by have := h.tot; show _ + (at_ d.files n).1.length ≤ _; omega)) _
theorem ok_delete {d : Disk} (h : Ok d) (n : Name) : Ok (delete d n).1 := ok_there h (fun _ _ => ok_del h n) _
theorem ok_append {d : Disk} (h : Ok d) (n : Name) (s : List UInt8) : Ok (append d n s).1 := by
  unfold append
  by_cases hf : has d.files n = true ∧ d.off = false ∧ d.cap < total d.files + s.length
  · rw [if_pos hf]; exact h
  · rw [if_neg hf]
    refine ok_there h (fun h1 h2 => ?_) _
    have hsp : total d.files + s.length ≤ d.cap := by
      rcases Nat.lt_or_ge d.cap (total d.files + s.length) with k | k
      · exact absurd ⟨h1, (err_zero h2).1, k⟩ hf
      · exact k
    refine ok_put h n _ (good_len (err_zero h2).2) ?_ ?_
    · have := at_syn h n
      show (at_ d.files n).2 ≤ ((at_ d.files n).1 ++ s).length
      rw [List.length_append]; omega
    · show _ + ((at_ d.files n).1 ++ s).length ≤ _
      rw [List.length_append]; omega
theorem ok_rename {d : Disk} (h : Ok d) (n m : Name) : Ok (rename d n m).1 := by
  unfold rename
  by_cases h0 : nameErr d.off [n, m] = 0
  · rw [if_neg (by rw [h0]; simp)]
    refine ok_there h (fun _ _ => ?_) _
    refine ok_put (ok_del h n) m _ (good_len (nameErr_two h0).2) (at_syn h n) ?_
    have := total_del d.files n
    have := h.tot
    show total (del d.files n) + _ ≤ _ + d.cap
    omega
  · rw [if_pos h0]; exact h
theorem ok_create {d : Disk} (h : Ok d) (n : Name) : Ok (create d n).1 := by
  unfold create
  by_cases h0 : nameErr d.off [n] = 0
  · rw [if_neg (by rw [h0]; simp)]
    cases has d.files n with
    | true => exact h
    | false =>
      rw [if_neg (by simp)]
      by_cases h2 : 200 ≤ d.files.length
      · rw [if_pos h2]; exact h
      · rw [if_neg h2]
        refine ok_done h (ok_put h n _ (good_len (err_zero h0).2) (Nat.le_refl _) ?_) _
        have := h.tot
        show _ + 0 ≤ _
        omega
  · rw [if_pos h0]; exact h
end vd
namespace wl
def writeOps (o n : vd.Name) (s : List UInt8) : List Op1 := [fun d => del d o, fun d => vd.create d o, fun d => vd.append d o s, fun d => vd.sync d o, fun d => vd.rename d o n]
/-- all bytes of the file anew -/
def write (d : vd.Disk) (n : vd.Name) (s : List UInt8) : vd.Disk × Nat := run (writeOps (n ++ [43]) n s) d
end wl
set_option maxHeartbeats 4000000 in
theorem wal_write {w : World} {p b g : Nat} {d : vd.Disk} {l : wl.L} (s : List UInt8) (hg : Lg w g p l) (hd : Dk w p b d) (hok : vd.Ok d) (hm : l.name.length ≤ 200) (hs : s.length ≤ 1000000000) :
    Calls Tryz.prog 74 #[.pointer (some ⟨g, 0, none⟩), .string (crcm.mk s)] w (fun e w' => e = .returned (.int .i64 ((wl.write d l.name s).2 : Nat)) ∧ Dk w' p b (wl.write d l.name s).1 ∧ Apart [p, b] w w' ∧ vd.Ok (wl.write d l.name s).1) := by
  obtain ⟨o, ho⟩ : ∃ o, l.name ++ [43] = o := ⟨_, rfl⟩
  have hcat : crcm.mk l.name ++ ⟨#[43]⟩ = crcm.mk o := by rw [← ho, ← crcm.mk_append]; rfl
  have hol : o.length ≤ maxLen := by rw [← ho, List.length_append]; unfold maxLen; simp; omega
  have hml : l.name.length ≤ maxLen := by unfold maxLen; omega
  have hz1 : (crcm.mk l.name).size = l.name.length := crcm.mk_size _
  have hz2 : ByteArray.size ⟨#[43]⟩ = 1 := rfl
  have hno : ¬ 9223372036854775807 < l.name.length + 1 := by omega
  have hpl := hd.blk.lt
  have hbl := hd.map.lt
  have hgl := hg.lt
  obtain ⟨N, hN⟩ : ∃ N, w.heap.size = N := ⟨_, rfl⟩
  obtain ⟨w1, hw1⟩ : ∃ w1, w.alloc (.cells #[.pointer (some ⟨g, 0, none⟩)] 97) = w1 := ⟨_, rfl⟩
  obtain ⟨w2, hw2⟩ : ∃ w2, w1.alloc (.cells #[.string (crcm.mk s)] 9) = w2 := ⟨_, rfl⟩
  obtain ⟨w3, hw3⟩ : ∃ w3, w2.alloc (.cells #[.string (crcm.mk o)] 9) = w3 := ⟨_, rfl⟩
  obtain ⟨xs, hxs⟩ : ∃ xs, xs = [((92, #[.pointer (some ⟨N, 0, none⟩), .pointer (some ⟨N + 2, 0, none⟩)], fun d => wl.del d o) : Nat × Array Value × wl.Op1),
    (94, #[.pointer (some ⟨N, 0, none⟩), .pointer (some ⟨N + 2, 0, none⟩)], fun d => vd.create d o),
    (96, #[.pointer (some ⟨N, 0, none⟩), .pointer (some ⟨N + 2, 0, none⟩), .pointer (some ⟨N + 1, 0, none⟩)], fun d => vd.append d o s),
    (98, #[.pointer (some ⟨N, 0, none⟩), .pointer (some ⟨N + 2, 0, none⟩)], fun d => vd.sync d o),
    (99, #[.pointer (some ⟨N, 0, none⟩), .pointer (some ⟨N + 2, 0, none⟩)], fun d => vd.rename d o l.name)] := ⟨_, rfl⟩
  obtain ⟨w4, hw4⟩ : ∃ w4, w3.alloc (.cells (xs.map stepV).toArray 142) = w4 := ⟨_, rfl⟩
  have s1 : w1.heap.size = N + 1 := by rw [← hw1, ← hN]; exact Array.size_push _
  have s2 : w2.heap.size = N + 2 := by rw [← hw2]; show (Array.push _ _).size = _; rw [Array.size_push, s1]
  have s3 : w3.heap.size = N + 3 := by rw [← hw3]; show (Array.push _ _).size = _; rw [Array.size_push, s2]
  have b1 : Below N w w1 := by rw [← hw1, ← hN]; exact (Below.refl _ w).alloc (Nat.le_refl _) _
  have b2 : Below (N + 1) w1 w2 := by rw [← hw2]; exact (Below.refl _ w1).alloc (by omega) _
  have b3 : Below (N + 2) w2 w3 := by rw [← hw3]; exact (Below.refl _ w2).alloc (by omega) _
  have b4 : Below (N + 3) w3 w4 := by rw [← hw4]; exact (Below.refl _ w3).alloc (by omega) _
  have vl1 : Vb w1 N [dptr g] 97 := by rw [← hw1, ← hN]; exact Vb.new w _ _
  have vs2 : Vb w2 (N + 1) [.string (crcm.mk s)] 9 := by have := Vb.new w1 [.string (crcm.mk s)] 9; rw [s1, hw2] at this; exact this
  have vo3 : Vb w3 (N + 2) [keyV o] 9 := by have := Vb.new w2 [keyV o] 9; rw [s2] at this; rw [← hw3]; exact this
  have vx4 : Vb w4 (N + 3) (xs.map stepV) 142 := by have := Vb.new w3 (xs.map stepV) 142; rw [s3, hw4] at this; exact this
  have vl4 : Vb w4 N [dptr g] 97 := (b4.block _ (by omega)).trans ((b3.block _ (by omega)).trans ((b2.block _ (by omega)).trans vl1))
  have vs4 : Vb w4 (N + 1) [.string (crcm.mk s)] 9 := (b4.block _ (by omega)).trans ((b3.block _ (by omega)).trans vs2)
  have vo4 : Vb w4 (N + 2) [keyV o] 9 := (b4.block _ (by omega)).trans vo3
  have b04 : Below N w w4 := ((b1.trans (b2.mono (by omega))).trans (b3.mono (by omega))).trans (b4.mono (by omega))
  have vg4 : Lg w4 g p l := (b04.block _ (by omega)).trans hg
  have hd4 : Dk w4 p b d := ⟨(b04.block _ (by omega)).trans hd.blk, by rw [← hN] at b04; exact hd.map.below b04⟩
  have hA : Apart [p, b] w w4 := by rw [← hN] at b04; exact .of_below b04 _
  have hgout : g ∉ [p, b] := log_out hg hd
  have hstep : ∀ x ∈ xs, Step w4 p b x := by
    have k1 : ∀ w', Apart [p, b] w4 w' → Vb w' N [dptr g] 97 := fun w' h => vl4.apart h (by simp; omega)
    have k2 : ∀ w', Apart [p, b] w4 w' → Vb w' (N + 2) [keyV o] 9 := fun w' h => vo4.apart h (by simp; omega)
    have k3 : ∀ w', Apart [p, b] w4 w' → Vb w' (N + 1) [.string (crcm.mk s)] 9 := fun w' h => vs4.apart h (by simp; omega)
    have k4 : ∀ w', Apart [p, b] w4 w' → Lg w' g p l := fun w' h => vg4.apart h hgout
    intro x hx
    rw [hxs] at hx
    rcases List.mem_cons.1 hx with rfl | hx
    · exact ⟨enters_any Tryz.func92 (by kernel_rfl) rfl, fun d w' h1 h2 h3 => ⟨vd.ok_delete h1 o, wal_w1 (k1 w' h3) (k4 w' h3) (k2 w' h3) h2 h1 hol⟩⟩
    rcases List.mem_cons.1 hx with rfl | hx
    · exact ⟨enters_any Tryz.func94 (by kernel_rfl) rfl, fun d w' h1 h2 h3 => ⟨vd.ok_create h1 o, wal_w2 (k1 w' h3) (k4 w' h3) (k2 w' h3) h2 h1 hol⟩⟩
    rcases List.mem_cons.1 hx with rfl | hx
    · exact ⟨enters_any Tryz.func96 (by kernel_rfl) rfl, fun d w' h1 h2 h3 => ⟨vd.ok_append h1 o s, wal_w3 (k1 w' h3) (k4 w' h3) (k2 w' h3) (k3 w' h3) h2 h1 hol hs⟩⟩
    rcases List.mem_cons.1 hx with rfl | hx
    · exact ⟨enters_any Tryz.func98 (by kernel_rfl) rfl, fun d w' h1 h2 h3 => ⟨vd.ok_sync h1 o, wal_w4 (k1 w' h3) (k4 w' h3) (k2 w' h3) h2 h1 hol⟩⟩
    rcases List.mem_cons.1 hx with rfl | hx
    · exact ⟨enters_any Tryz.func99 (by kernel_rfl) rfl, fun d w' h1 h2 h3 => ⟨vd.ok_rename h1 o l.name, wal_w5 (k1 w' h3) (k4 w' h3) (k2 w' h3) h2 h1 hol hml⟩⟩
    cases hx
  have hops : xs.map (·.2.2) = wl.writeOps o l.name s := by rw [hxs]; rfl
  have hlen : xs.length = 5 := by rw [hxs]; rfl
  have hcall := wal_steps (G := N + 3) xs vx4 (by simp; omega) hstep hd4 hok (by omega)
  rw [hops, hlen] at hcall
  have hres : wl.write d l.name s = wl.run (wl.writeOps o l.name s) d := by rw [← ho]; rfl
  rw [← hres] at hcall
  rw [hxs] at hw4
  simp only [List.map_cons, List.map_nil, stepV] at hw4
  have q1 := vg4.cell 1 _ rfl
  have r1 := (show Vb w2 N _ _ from (b2.block _ (by omega)).trans vl1).cell 0 _ rfl
  have r2 := (show Lg w2 g p l from ((b2.block _ (by omega)).trans ((b1.block _ (by omega)).trans hg))).cell 1 _ rfl
  clear hops hlen hres hstep vx4 vl4 vs4 vo4 vo3 vs2 vl1 b4 b3 b2 b1 b04 vg4 hd4 ho hol hml hd hg hok hxs
  unfold dptr keyV at *
  rw [hz2] at *
  go_enter Tryz.func74, Tryz.ntmps74
  go_wp2_with fail
  refine hcall.mono ?_
  rintro e w5 ⟨rfl, h1, h2, h3⟩
  go_wp2_with fail
  go_ret
  exact ⟨rfl, h1, hA.trans h2, h3⟩
end Go.Proofs.YtmcibggjolckoaaGreatDoor
namespace Go.Proofs.YtmcibggjolckoaaGreatDoor
open Go Go.RowKit Go.Lib Go.Shelf
set_option maxRecDepth 100000

def bren : Go.Shelf.Ren := ⟨fun | 169 => 123 | n => n, fun | 70 => 164 | 9 => 9 | 0 => 0 | 72 => 166 | 37 => 146 | 127 => 176 | 3 => 3 | 5 => 5 | n => n, fun | n => n⟩
theorem blays : Go.Proofs.Lays.n169 Tryz.prog bren := {
  mixed := by kernel_rfl
  f169 := Tryz.func123.trans (congrArg some (by kernel_rfl))
  t0 := Tryz.underlying0
  a0 := Tryz.isAgg0
  z0 := Tryz.sizeOf0
  v0 := Tryz.zeroValue0
  t3 := Tryz.underlying3
  a3 := Tryz.isAgg3
  z3 := Tryz.sizeOf3
  v3 := Tryz.zeroValue3
  t9 := Tryz.underlying9
  a9 := Tryz.isAgg9
  z9 := Tryz.sizeOf9
  v9 := Tryz.zeroValue9
  t37 := Tryz.underlying146
  a37 := Tryz.isAgg146
  z37 := Tryz.sizeOf146
  v37 := Tryz.zeroValue146
  t70 := Tryz.underlying164
  a70 := Tryz.isAgg164
  z70 := Tryz.sizeOf164
  v70 := Tryz.zeroValue164
  t72 := Tryz.underlying166
  a72 := Tryz.isAgg166
  z72 := Tryz.sizeOf166
  v72 := Tryz.zeroValue166
  t127 := Tryz.underlying176
  a127 := Tryz.isAgg176
  z127 := Tryz.sizeOf176
  v127 := Tryz.zeroValue176 }
theorem bextra : Builder.Extra Tryz.prog bren := {
  sizeBuilder := by kernel_rfl
  liesBuilder := by kernel_rfl
  t5 := Tryz.underlying5
  a5 := Tryz.isAgg5
  z5 := Tryz.sizeOf5
  v5 := Tryz.zeroValue5
  infoByte := by kernel_rfl
  cellsByte := by kernel_rfl
  sizeByte := by kernel_rfl
  neB5 := by decide }
/-- a builder of the call's own, and its bytes -/
abbrev Bld (B b : Nat) (bs : List Value) (w : World) : Prop := Lib.IsBuilder 166 5 B b bs w
theorem bld_string (B b : Nat) (l : List UInt8) (w : World) (h : Bld B b (Lib.byteCells l) w) (hBw : B ≤ w.heap.size) :
    Calls Tryz.prog 123 #[.pointer (some ⟨b, 0, none⟩)] w fun e w' => e = .returned (.string ⟨l.toArray⟩) ∧ Below B w w' := Any.Builder_String_any blays bextra B b l w h hBw
theorem bld_check (B b : Nat) (bs : List Value) (w : World) (h : Bld B b bs w) :
    Calls Tryz.prog 126 #[.pointer (some ⟨b, 0, none⟩)] w fun e w' => e = .returned (.tuple #[]) ∧ (Lib.BuilderAt 166 5 B b (.pointer (some ⟨b, 0, none⟩)) bs w' ∧ Below B w w') := by
  obtain ⟨j, hj, hjs⟩ := Option.map_eq_some_iff.1 bextra.sizeBuilder
  rcases h with h | h
  · have h0 := h.cell0
    have hsh := h.shape
    have hfz := h.frozen0
    have h1 := Lib.run_to_unsafe w ⟨b, 0, none⟩ Tryz.underlying164 Tryz.underlying178 hj (by rw [hjs]; decide) hsh (Nat.zero_lt_succ 1)
    have h2 := Lib.run_from_unsafe w ⟨b, 0, none⟩ Tryz.underlying178 Tryz.underlying164 hj hsh bextra.liesBuilder
    have h3 := run_callFunc_extern Tryz.func127 (by kernel_rfl) (by kernel_rfl) (by kernel_rfl) (e := Extern.AbiNoEscape.same) (by kernel_rfl) #[.pointer (some ⟨b, 0, none⟩)] w
    rw [Lib.run_noEscape] at h3
    simp only [Result.andThen] at h3
    go_enter Tryz.func126, Tryz.ntmps126
    go_wp2
    go_end0
    exact ⟨rfl, h.used _, (Below.refl B w).setCell (p := ⟨b, 0, none⟩) h.1 _⟩
  · have h0 := h.cell0
    have h1 := Lib.run_neq_ptr_same w ⟨b, 0, none⟩ Tryz.underlying164 hj
    go_enter Tryz.func126, Tryz.ntmps126
    go_wp2
    go_end0
    exact ⟨rfl, h, Below.refl B _⟩
set_option maxHeartbeats 4000000 in
theorem bld_write (B b : Nat) (bs : List Value) (s : ByteArray) (w : World) (h : Bld B b bs w) (hlen : bs.length + s.size ≤ 140737488355328) (hBw : B ≤ w.heap.size) :
    Calls Tryz.prog 122 #[.pointer (some ⟨b, 0, none⟩), .string s] w fun e w' => (∃ v, e = .returned v) ∧ (Bld B b (bs ++ Lib.strCells s) w' ∧ Below B w w') := by
  obtain ⟨i0, hi, hz0, hz1, hz2⟩ := info_parts bextra.infoByte
  go_enter Tryz.func122, Tryz.ntmps122
  go_wp2_with fail
  refine (bld_check B b bs _ h).mono ?_
  rintro e w1 ⟨rfl, h1, hb1⟩
  obtain ⟨hB, v, hbk, hown, hne⟩ := h1
  have c0 : w1.cell? ⟨b, 0, none⟩ = some (.pointer (some ⟨b, 0, none⟩)) := by rw [Lib.cell_of_heap hbk]; rfl
  have c1 : w1.cell? ⟨b, 1, none⟩ = some v := by rw [Lib.cell_of_heap hbk]; rfl
  go_wp2_with (at_builtin; refine Lib.wpList_append_own_string _ rfl _ _ 146 9 rfl B 5 i0 Tryz.underlying146 Tryz.underlying9 hi hz0 hz1 hz2 _ _ _ rfl hown s rfl ?c3 ?c4 ?c5 ?_)
  case c3 => unfold maxLen; omega
  case c4 => omega
  case c5 => have := hb1.size; omega
  intro v' w2 hown' hgrow _
  have hlt : b < w1.heap.size := by
    rcases Nat.lt_or_ge b w1.heap.size with h' | h'
    · exact h'
    · simp [Array.getElem?_eq_none h'] at hbk
  have hb2 : w2.heap[b]? = some (.cells #[.pointer (some ⟨b, 0, none⟩), v] 166 (0, 0)) := by
    rw [hgrow.block b hlt (fun e => hne e.symm)]
    exact hbk
  have d0 : w2.cell? ⟨b, 0, none⟩ = some (.pointer (some ⟨b, 0, none⟩)) := by rw [Lib.cell_of_heap hb2]; rfl
  have d1 : w2.cell? ⟨b, 1, none⟩ = some v := by rw [Lib.cell_of_heap hb2]; rfl
  have f1 : w2.frozen? ⟨b, 1, none⟩ = false := Lib.frozen_of_heap hb2 1
  obtain ⟨ao, n', cap, rfl⟩ : ∃ ao n' cap, v' = .slice ao n' cap := by
    rcases hown'.2 with ⟨hv, _⟩ | ⟨g, cap, cur, hv, _⟩
    · exact ⟨_, _, _, hv⟩
    · exact ⟨_, _, _, hv⟩
  go_wp2
  go_ret2
  refine ⟨⟨_, rfl⟩, ?_, ?_⟩
  · exact .inr (Lib.BuilderAt.put (T := 166) (e := 5) hB hb2 (bs' := bs ++ Lib.strCells s) (by simpa [Lib.strCells_length] using hown') (by decide))
  · exact (hb1.grown hgrow (by have := hb1.size; omega) (fun k hk => (hown.lt k hk).1)).setCell (p := ⟨b, 1, none⟩) hB _
end Go.Proofs.YtmcibggjolckoaaGreatDoor
