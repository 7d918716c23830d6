/- KcRead, KcOn, KcCrash, KcWay: one behind the other. -/
import Derived.Test.YtmcibggjolckoaaGreatDoorG31
namespace Go.Proofs.YtmcibggjolckoaaGreatDoor
open Go Go.RowKit Go.Deep
set_option maxRecDepth 100000
section
variable {B : Nat} {w0 w : World} {c R : Nat} {C : cl.Clu} {F : Nat → Fp} {k : Nat} {wv : Value}
theorem many_any (h : CluAt B w0 w c R C F k wv) : Calls Tryz.prog 24 #[cptr c] w fun e w' => e = .returned (.int .i64 (C.n : Int)) ∧ w = w' := by
  have c0 := h.c0
  obtain ⟨n, hn⟩ : ∃ n, C.n = n := ⟨_, rfl⟩
  rw [hn] at c0 ⊢
  unfold cptr
  clear h hn
  go_enter Tryz.func24, Tryz.ntmps24
  go_wp2
  go_ret
  exact ⟨rfl, rfl⟩
theorem waiting_any (h : CluAt B w0 w c R C F k wv) : Calls Tryz.prog 25 #[cptr c] w fun e w' => e = .returned (.int .i64 (C.way.length : Int)) ∧ w = w' := by
  have c1 := h.c1
  obtain ⟨A, d, hf⟩ := h.way.form
  subst hf
  obtain ⟨n, hn⟩ : ∃ n, C.way.length = n := ⟨_, rfl⟩
  rw [hn] at c1 ⊢
  unfold cptr
  clear h hn
  go_enter Tryz.func25, Tryz.ntmps25
  go_wp2
  go_ret
  exact ⟨rfl, rfl⟩
/-- no node i -/
theorem has_no {i : Int} (h : CluAt B w0 w c R C F k wv) (hi : ¬ (0 ≤ i ∧ i < (C.n : Int))) : Calls Tryz.prog 37 #[cptr c, .int .i64 i] w fun e w' => e = .returned (.bool false) ∧ Below w.heap.size w w' := by
  have hd : (decide (0 ≤ i) && decide (i < (C.n : Int))) = false := by simp; omega
  have := has_any i h
  rw [hd] at this
  exact this
theorem has_yes {i : Nat} (h : CluAt B w0 w c R C F k wv) (hi : i < C.n) : Calls Tryz.prog 37 #[cptr c, .int .i64 (i : Int)] w fun e w' => e = .returned (.bool true) ∧ Below w.heap.size w w' := by
  have hd : (decide (0 ≤ (i : Int)) && decide ((i : Int) < (C.n : Int))) = true := by simp; omega
  have := has_any (i : Int) h
  rw [hd] at this
  exact this
theorem up_no {i : Int} (h : CluAt B w0 w c R C F k wv) (hi : ¬ (0 ≤ i ∧ i < (C.n : Int))) : Calls Tryz.prog 20 #[cptr c, .int .i64 i] w fun e w' => e = .returned (.bool false) ∧ Below w.heap.size w w' := by
  have H := Lib.hid (has_no h hi)
  clear h hi
  unfold cptr at H ⊢
  go_enter Tryz.func20, Tryz.ntmps20
  go_wp2_with (go_at_call 37; refine H.out.mono ?_; rintro e w1 ⟨rfl, hb1⟩)
  go_ret
  exact ⟨rfl, hb1⟩
theorem up_yes {i : Nat} (h : CluAt B w0 w c R C F k wv) (hi : i < C.n) : Calls Tryz.prog 20 #[cptr c, .int .i64 (i : Int)] w fun e w' => e = .returned (.bool (C.p i).up) ∧ Below w.heap.size w w' := by
  have H := Lib.hid (has_yes h hi)
  have K : Hid (∀ w', Below w.heap.size w w' → w'.cell? ⟨c, 0, none⟩ = some (.slice (some ⟨R, 0, none⟩) C.n k) ∧ w'.cell? ⟨R, i, none⟩ = some (.pointer (some ⟨(F i).q, 0, none⟩)) ∧ w'.cell? ⟨(F i).q, 32, none⟩ = some (.bool (C.p i).up)) := Lib.hid fun w' hb => ⟨(h.later hb).c0, (h.later hb).at_ hi, (h.later hb).upc hi⟩
  obtain ⟨b, hb⟩ : ∃ b, (C.p i).up = b := ⟨_, rfl⟩
  obtain ⟨q, hq⟩ : ∃ q, (F i).q = q := ⟨_, rfl⟩
  obtain ⟨n, hn⟩ : ∃ n, C.n = n := ⟨_, rfl⟩
  rw [hb, hq, hn] at K
  rw [hn] at hi
  rw [hb]
  have hin : (i : Int) < (n : Int) := by omega
  clear h hb hq hn
  unfold cptr at H ⊢
  go_enter Tryz.func20, Tryz.ntmps20
  go_wp2_with (go_at_call 37; refine H.out.mono ?_; rintro e w1 ⟨rfl, hb1⟩; obtain ⟨k0, k1, k2⟩ := K.out w1 hb1)
  go_ret
  exact ⟨by cases b <;> rfl, hb1⟩
theorem disk_no {i : Int} (h : CluAt B w0 w c R C F k wv) (hi : ¬ (0 ≤ i ∧ i < (C.n : Int))) : Calls Tryz.prog 27 #[cptr c, .int .i64 i] w fun e w' => e = .returned (.pointer none) ∧ Below w.heap.size w w' := by
  have H := Lib.hid (has_no h hi)
  clear h hi
  unfold cptr at H ⊢
  go_enter Tryz.func27, Tryz.ntmps27
  go_wp2_with (go_at_call 37; refine H.out.mono ?_; rintro e w1 ⟨rfl, hb1⟩)
  go_ret
  exact ⟨rfl, hb1⟩
theorem CluAt.dsk (h : CluAt B w0 w c R C F k wv) {i : Nat} (hi : i < C.n) : w.cell? ⟨(F i).q, 30, none⟩ = some (dptr (F i).p) :=
  (h.peers i hi).blk.cell 30 _ (by unfold peerC; rw [List.getElem?_append_right (by rw [ndC_len (h.peers i hi).ok]; omega), ndC_len (h.peers i hi).ok]; rfl)
theorem CluAt.sto (h : CluAt B w0 w c R C F k wv) {i : Nat} (hi : i < C.n) : w.cell? ⟨(F i).q, 31, none⟩ = some (F i).sv :=
  (h.peers i hi).blk.cell 31 _ (by unfold peerC; rw [List.getElem?_append_right (by rw [ndC_len (h.peers i hi).ok]; omega), ndC_len (h.peers i hi).ok]; rfl)
theorem disk_yes {i : Nat} (h : CluAt B w0 w c R C F k wv) (hi : i < C.n) : Calls Tryz.prog 27 #[cptr c, .int .i64 (i : Int)] w fun e w' => e = .returned (.pointer (some ⟨(F i).p, 0, none⟩)) ∧ Below w.heap.size w w' := by
  have H := Lib.hid (has_yes h hi)
  have K : Hid (∀ w', Below w.heap.size w w' → w'.cell? ⟨c, 0, none⟩ = some (.slice (some ⟨R, 0, none⟩) C.n k) ∧ w'.cell? ⟨R, i, none⟩ = some (.pointer (some ⟨(F i).q, 0, none⟩)) ∧ w'.cell? ⟨(F i).q, 30, none⟩ = some (dptr (F i).p)) := Lib.hid fun w' hb => ⟨(h.later hb).c0, (h.later hb).at_ hi, (h.later hb).dsk hi⟩
  obtain ⟨p, hb⟩ : ∃ b, (F i).p = b := ⟨_, rfl⟩
  obtain ⟨q, hq⟩ : ∃ q, (F i).q = q := ⟨_, rfl⟩
  obtain ⟨n, hn⟩ : ∃ n, C.n = n := ⟨_, rfl⟩
  rw [hb, hq, hn] at K
  rw [hn] at hi
  rw [hb]
  have hin : (i : Int) < (n : Int) := by omega
  clear h hb hq hn
  unfold cptr at H ⊢
  unfold dptr at K
  go_enter Tryz.func27, Tryz.ntmps27
  go_wp2_with (go_at_call 37; refine H.out.mono ?_; rintro e w1 ⟨rfl, hb1⟩; obtain ⟨k0, k1, k2⟩ := K.out w1 hb1)
  go_ret
  exact ⟨rfl, hb1⟩
end
end Go.Proofs.YtmcibggjolckoaaGreatDoor
namespace Go.Proofs.YtmcibggjolckoaaGreatDoor
open Go Go.RowKit Go.Deep
set_option maxRecDepth 100000
section
variable {B : Nat} {w0 w : World} {c R : Nat} {C : cl.Clu} {F : Nat → Fp} {k : Nat} {wv : Value}
theorem on_no {i : Int} (fv : Value) (h : CluAt B w0 w c R C F k wv) (hi : ¬ (0 ≤ i ∧ i < (C.n : Int))) : Calls Tryz.prog 32 #[cptr c, .int .i64 i, fv] w fun e w' => e = .returned (.int .i64 1) ∧ Below w.heap.size w w' := by
  have H := Lib.hid (has_no h hi)
  clear h hi
  unfold cptr at H ⊢
  go_enter Tryz.func32, Tryz.ntmps32
  go_wp2_with (go_at_call 37; refine H.out.mono ?_; rintro e w1 ⟨rfl, hb1⟩)
  go_ret
  exact ⟨rfl, hb1⟩
theorem on_down {i : Nat} (fv : Value) (h : CluAt B w0 w c R C F k wv) (hi : i < C.n) (hu : (C.p i).up = false) : Calls Tryz.prog 32 #[cptr c, .int .i64 (i : Int), fv] w fun e w' => e = .returned (.int .i64 6) ∧ Below w.heap.size w w' := by
  have H := Lib.hid (has_yes h hi)
  have K : Hid (∀ w', Below w.heap.size w w' → w'.cell? ⟨c, 0, none⟩ = some (.slice (some ⟨R, 0, none⟩) C.n k) ∧ w'.cell? ⟨R, i, none⟩ = some (.pointer (some ⟨(F i).q, 0, none⟩)) ∧ w'.cell? ⟨(F i).q, 32, none⟩ = some (.bool false)) := Lib.hid fun w' hb => ⟨(h.later hb).c0, (h.later hb).at_ hi, by rw [← hu]; exact (h.later hb).upc hi⟩
  obtain ⟨q, hq⟩ : ∃ q, (F i).q = q := ⟨_, rfl⟩
  obtain ⟨n, hn⟩ : ∃ n, C.n = n := ⟨_, rfl⟩
  rw [hq, hn] at K
  rw [hn] at hi
  have hin : (i : Int) < (n : Int) := by omega
  clear h hq hn hu
  unfold cptr at H ⊢
  go_enter Tryz.func32, Tryz.ntmps32
  go_wp2_with (go_at_call 37; refine H.out.mono ?_; rintro e w1 ⟨rfl, hb1⟩; obtain ⟨k0, k1, k2⟩ := K.out w1 hb1)
  go_ret
  exact ⟨rfl, hb1⟩
theorem on_up {i : Nat} (G : Nat) (caps : Array Value) (Post : Int → World → World → Prop) (h : CluAt B w0 w c R C F k wv) (hi : i < C.n) (hu : (C.p i).up = true)
    (eg : ∀ args w, (callFunc G args).run Tryz.prog w = .ok (.enter G args) w)
    (hcall : ∀ w1, Below w.heap.size w w1 → Calls Tryz.prog G (#[] ++ #[.pointer (some ⟨(F i).q, 0, none⟩)] ++ caps) w1 (fun e w2 => ∃ z : Int, e = .returned (.int .i64 z) ∧ Post z w1 w2)) :
    Calls Tryz.prog 32 #[cptr c, .int .i64 (i : Int), .func (.func G) #[] caps] w fun e w2 => ∃ z w1, e = .returned (.int .i64 z) ∧ Below w.heap.size w w1 ∧ Post z w1 w2 := by
  have H := Lib.hid (has_yes h hi)
  have K : Hid (∀ w', Below w.heap.size w w' → w'.cell? ⟨c, 0, none⟩ = some (.slice (some ⟨R, 0, none⟩) C.n k) ∧ w'.cell? ⟨R, i, none⟩ = some (.pointer (some ⟨(F i).q, 0, none⟩)) ∧ w'.cell? ⟨(F i).q, 32, none⟩ = some (.bool true)) := Lib.hid fun w' hb => ⟨(h.later hb).c0, (h.later hb).at_ hi, by rw [← hu]; exact (h.later hb).upc hi⟩
  obtain ⟨q, hq⟩ : ∃ q, (F i).q = q := ⟨_, rfl⟩
  obtain ⟨n, hn⟩ : ∃ n, C.n = n := ⟨_, rfl⟩
  rw [hq, hn] at K
  rw [hq] at hcall
  rw [hn] at hi
  have HC := Lib.hid hcall
  have hin : (i : Int) < (n : Int) := by omega
  clear h hq hn hu hcall
  unfold cptr at H ⊢
  go_enter Tryz.func32, Tryz.ntmps32
  go_upto_region 5 with (go_at_call 37; refine H.out.mono ?_; rintro e w1 ⟨rfl, hb1⟩; obtain ⟨k0, k1, k2⟩ := K.out w1 hb1)
  have hcall := HC.out w1 hb1
  have HB1 := Lib.hid hb1
  clear hb1
  go_wp2_with fail
  refine hcall.mono ?_
  rintro e w2 ⟨z, rfl, hP⟩
  go_wp2_with fail
  go_ret
  exact ⟨z, w1, rfl, HB1.out, hP⟩
end
end Go.Proofs.YtmcibggjolckoaaGreatDoor
namespace Go.Proofs.YtmcibggjolckoaaGreatDoor
open Go Go.RowKit Go.Deep
set_option maxRecDepth 100000
theorem Vb.cellsAt {g : Nat} {t : TypeId} : ∀ (vs : List Value) (o : Nat) (w : World) (us : List Value), Vb w g us t → o + vs.length ≤ us.length → Vb (w.setCells g o vs) g (us.take o ++ vs ++ us.drop (o + vs.length)) t
  | [], o, w, us, h, _ => by
    show Vb w g _ t
    rw [List.append_nil, List.length_nil, Nat.add_zero, List.take_append_drop]
    exact h
  | v :: r, o, w, us, h, hl => by
    have hl2 : o + 1 + r.length ≤ us.length := by rw [List.length_cons] at hl; omega
    have ih := Vb.cellsAt r (o + 1) (w.setCell ⟨g, o, none⟩ v) (us.set o v) (h.set o v) (by rw [List.length_set]; exact hl2)
    have e1 : (us.set o v).take (o + 1) = us.take o ++ [v] := by
      rw [List.take_add_one, List.take_set_of_le (Nat.le_refl _), List.getElem?_set_self (by omega)]
      rfl
    have e2 : (us.set o v).drop (o + 1 + r.length) = us.drop (o + (v :: r).length) := by
      rw [List.drop_set_of_lt (by omega), List.length_cons, show o + 1 + r.length = o + (r.length + 1) by omega]
    rw [e1, e2] at ih
    show Vb ((w.setCell ⟨g, o, none⟩ v).setCells g (o + 1) r) g _ t
    rw [show us.take o ++ (v :: r) = us.take o ++ [v] ++ r by simp]
    exact ih
theorem apart_cells (g : Nat) : ∀ (vs : List Value) (o : Nat) (w : World), Apart [g] w (w.setCells g o vs)
  | [], _, _ => Apart.refl _ _
  | v :: r, o, w => (Apart.setCell w g o v).trans (apart_cells g r (o + 1) _)
theorem Vb.there {w : World} {g : Nat} {us : List Value} {t : TypeId} (h : Vb w g us t) {o n : Nat} (hl : o + n ≤ us.length) : w.there g o n := fun j hj => by
  refine ⟨?_, Blk.free h (o + j)⟩
  have := h.cell (o + j) _ (List.getElem?_eq_getElem (by omega))
  rw [this]
  rfl
section
variable {w0 w : World} {p b : Nat} {d : vd.Disk}
theorem ld_fuse (n k : Int) (h : Ldk w0 w p b d) (hn : n ≤ 9223372036854775807) :
    Calls Tryz.prog 39 #[.pointer (some ⟨p, 0, none⟩), .int .i64 n, .int .i64 k] w (fun e w' => e = .returned (.tuple #[]) ∧ Ldk w0 w' p b { d with left := (max n 0).toNat, keep := k } ∧ Apart [p] w w') :=
  (vd_fuse h.dk n k).mono (by
    rintro e w' ⟨h1, h2, h3⟩
    exact ⟨h1, h.next h3 (by have := h.hp; simp; omega) h2 ⟨h.ok.cap, h.ok.tot, h.ok.nod, h.ok.syn, h.ok.nam, by show (max n 0).toNat ≤ _; omega⟩ rfl, h3⟩)
theorem ld_on (h : Ldk w0 w p b d) :
    Calls Tryz.prog 40 #[.pointer (some ⟨p, 0, none⟩)] w (fun e w' => e = .returned (.tuple #[]) ∧ Ldk w0 w' p b { d with off := false, left := 0 } ∧ Apart [p] w w') :=
  (vd_on h.dk).mono (by
    rintro e w' ⟨h1, h2, h3⟩
    exact ⟨h1, h.next h3 (by have := h.hp; simp; omega) h2 ⟨h.ok.cap, h.ok.tot, h.ok.nod, h.ok.syn, h.ok.nam, by show 0 ≤ _; omega⟩ rfl, h3⟩)
theorem ld_crash (keep : Int) (h : Ldk w0 w p b d) :
    Calls Tryz.prog 56 #[.pointer (some ⟨p, 0, none⟩), .int .i64 keep] w (fun e w' => e = .returned (.tuple #[]) ∧ Ldk w0 w' p b (vd.crash d keep) ∧ Apart [p, b] w w') :=
  (vd_crash keep h.dk h.ok).mono (by
    rintro e w' ⟨h1, h2, h3⟩
    exact ⟨h1, h.next h3 (by have := h.hp; have := h.hb; simp; omega) h2 (vd.ok_crash h.ok keep) rfl, h3⟩)
end
theorem Kept.crash {B : Nat} {d : vd.Disk} {a : List (List UInt8)} {s : cl.St} (h : Kept B d a s) (keep : Int) : Kept B (vd.crash d keep) a s :=
  ⟨h.wide, h.frm, wl.two_crash keep h.two, h.flat, h.many, h.cap⟩
/-- where it lies when it is down -/
def Fp.down (f : Fp) (d : vd.Disk) : Fp := { f with A := none, c := 0, d := d }
theorem zero_ok : NOk zeroN := ⟨rfl, rfl, rfl, by intro x hx; simp [zeroN] at hx; omega, by intro x hx; simp [zeroN] at hx; omega⟩
/-- a node, whatever its store holds -/
structure PeerB (B : Nat) (w0 w : World) (P : cl.Nd) (f : Fp) : Prop where
  blk : Vb w f.q (peerC P.x f P.up) 67
  ok : NOk P.x
  disk : Ldk w0 w f.p f.b f.d
  hq : w0.heap.size ≤ f.q
  kept : Kept B f.d f.a P.s
  sv : ∃ o, f.sv = .pointer o
theorem PeerOk.base {B : Nat} {w0 w : World} {P : cl.Nd} {f : Fp} (h : PeerOk B w0 w P f) : PeerB B w0 w P f := ⟨h.blk, h.ok, h.disk, h.hq, h.kept, h.sv⟩
set_option maxHeartbeats 4000000 in
theorem crash_any {B : Nat} {w0 w : World} {P : cl.Nd} {f : Fp} (keep : Int) (h : PeerB B w0 w P f) :
    Calls Tryz.prog 44 #[.pointer (some ⟨f.q, 0, none⟩), .int .i64 keep] w fun e w' => e = .returned (.tuple #[]) ∧ PeerOk B w0 w' ⟨P.s, false, zeroN⟩ (f.down (vd.crash f.d keep)) ∧ Apart [f.q, f.p, f.b] w w' := by
  have hql := h.blk.lt
  have h30 : w.cell? ⟨f.q, 30, none⟩ = some (dptr f.p) := h.blk.cell 30 _ (by unfold peerC; rw [List.getElem?_append_right (by rw [ndC_len h.ok]; omega), ndC_len h.ok]; rfl)
  have HD := Lib.hid (ld_crash keep h.disk)
  have hqp : f.q ≠ f.p := ne_of_type h.blk h.disk.dk.blk (by decide)
  have hqb : f.q ≠ f.b := ne_map h.blk h.disk.dk.map
  have HH := Lib.hid h
  have HQ : Hid (f.q ∉ [f.p, f.b]) := Lib.hid (by simp [hqp, hqb])
  obtain ⟨q, hq⟩ : ∃ q, f.q = q := ⟨_, rfl⟩
  rw [hq] at h30 ⊢
  have HQE := Lib.hid hq
  unfold dptr at h30
  clear h hqp hqb hql hq
  go_enter Tryz.func44, Tryz.ntmps44
  go_upto_region 1 with (go_at_call 56; refine HD.out.mono ?_; rintro e w1 ⟨rfl, hd1, hA1⟩)
  have hb1 : Vb w1 f.q (peerC P.x f P.up) 67 := HH.out.blk.apart hA1 HQ.out
  have hset : (peerC P.x f P.up).set 32 (.bool false) = peerC P.x f false := by
    have hl := ndC_len HH.out.ok (f.ev P.x)
    unfold peerC
    rw [List.set_append_right _ _ (by omega), hl]
    rfl
  have hlen : (peerC P.x f false).length = 33 := by unfold peerC; rw [List.length_append, ndC_len HH.out.ok]; rfl
  have c32 : w1.cell? ⟨f.q, 32, none⟩ = some (.bool P.up) := hb1.cell 32 _ (by unfold peerC; rw [List.getElem?_append_right (by rw [ndC_len HH.out.ok]; omega), ndC_len HH.out.ok]; rfl)
  have f32 := Blk.free hb1 32
  have hb2 := hb1.set 32 (.bool false)
  rw [hset] at hb2
  have hov := Vb.cellsAt (ndC zeroN nilV) 0 _ _ hb2 (by rw [hlen]; decide)
  have hth := hb2.there (o := 0) (n := (ndC zeroN nilV).toArray.size) (by rw [hlen]; decide)
  have hA2 := (Apart.setCell w1 f.q 32 (.bool false)).trans (apart_cells f.q (ndC zeroN nilV) 0 (w1.setCell ⟨f.q, 32, none⟩ (.bool false)))
  have hdrop : (peerC P.x f false).take 0 ++ ndC zeroN nilV ++ (peerC P.x f false).drop (0 + (ndC zeroN nilV).length) = peerC zeroN (f.down (vd.crash f.d keep)) false := by
    have hl := ndC_len HH.out.ok (f.ev P.x)
    have hz : (ndC zeroN nilV).length = 30 := rfl
    rw [hz, List.take_zero, List.nil_append, Nat.zero_add]
    unfold peerC
    rw [List.drop_append_of_le_length (by omega), List.drop_of_length_le (by omega), List.nil_append]
    rfl
  rw [hdrop] at hov
  have hfin : PeerOk B w0 ((w1.setCell ⟨f.q, 32, none⟩ (.bool false)).setCells f.q 0 (ndC zeroN nilV)) ⟨P.s, false, zeroN⟩ (f.down (vd.crash f.d keep)) := by
    refine ⟨hov, EntsB.nil 0 _, zero_ok, ?_, HH.out.hq, HH.out.kept.crash keep, HH.out.sv, fun h => by cases h⟩
    have hqp : f.p ∉ [f.q] := by have := HQ.out; simp at this ⊢; omega
    have hqb : f.b ∉ [f.q] := by have := HQ.out; simp at this ⊢; omega
    exact hd1.next hA2 (by have := HH.out.hq; simp; omega) (hd1.dk.apart hA2 hqp hqb) hd1.ok rfl
  have hap : Apart [f.q, f.p, f.b] w ((w1.setCell ⟨f.q, 32, none⟩ (.bool false)).setCells f.q 0 (ndC zeroN nilV)) :=
    hA1.then hA2 (fun x hx => .inl (by simp at hx ⊢; omega)) (fun x hx => .inl (by simp at hx ⊢; omega))
  have HF := Lib.hid hfin
  have HAP := Lib.hid hap
  rw [HQE.out] at c32 f32 hth HF HAP
  have HTH := Lib.hid hth
  clear hb1 hset hlen hb2 hov hA2 hdrop hfin hap hd1 hA1 hth
  go_upto_region 2 with fail
  clear c32 f32
  go_wp2_with (refine wpList_store_mid rfl 50 (.tmp 16) (.tmp 14) rfl q 0 (ndC zeroN nilV).toArray rfl rfl HTH.out (by rw [node_size]; rfl) (ndC_one rfl) ?_)
  go_end0
  exact ⟨rfl, HF.out, HAP.out⟩
end Go.Proofs.YtmcibggjolckoaaGreatDoor
namespace Go.Proofs.YtmcibggjolckoaaGreatDoor
open Go Go.RowKit Go.Deep
set_option maxRecDepth 100000
def flatM (l : List (rf.Msg × Value)) : List Value := l.flatMap fun p => msgC p.1 p.2
theorem flatM_len (l : List (rf.Msg × Value)) : (flatM l).length = l.length * 9 := by
  induction l with
  | nil => rfl
  | cons x r ih =>
    have e : flatM (x :: r) = msgC x.1 x.2 ++ flatM r := rfl
    rw [e, List.length_append, ih, List.length_cons]
    show 9 + _ = _
    omega
theorem flatM_drop (l : List (rf.Msg × Value)) (k : Nat) : (flatM l).drop (k * 9) = flatM (l.drop k) := by
  induction k generalizing l with
  | zero => rw [Nat.zero_mul]; rfl
  | succ k ih =>
    cases l with
    | nil => simp [flatM]
    | cons x r =>
      have e : flatM (x :: r) = msgC x.1 x.2 ++ flatM r := rfl
      have h9 : (msgC x.1 x.2).length = 9 := rfl
      rw [e, List.drop_append, List.drop_of_length_le (by rw [h9]; omega), List.nil_append, h9, show (k + 1) * 9 - 9 = k * 9 by omega, ih]
      rfl
theorem zip_len {ms : List rf.Msg} {evs : List Value} (h : evs.length = ms.length) : (ms.zip evs).length = ms.length := by rw [List.length_zip]; omega
theorem flatM_one {w : World} {base : Nat} {l : List (rf.Msg × Value)} (h : ∀ p ∈ l, EntsB base w p.2 p.1.ents) : ∀ u ∈ flatM l, u.oneCell' = true := by
  intro u hu
  unfold flatM at hu
  obtain ⟨p, hp, hm⟩ := List.mem_flatMap.1 hu
  obtain ⟨A, c, e⟩ := (h p hp).form
  rw [e] at hm
  simp only [msgC, List.mem_cons, List.not_mem_nil, or_false] at hm
  rcases hm with rfl | rfl | rfl | rfl | rfl | rfl | rfl | rfl | rfl <;> rfl
/-- the cells of a row of messages, as a call's slice has them -/
theorem Way.cells {base : Nat} {w : World} {A : Option Addr} {c n : Nat} {ms : List rf.Msg} (h : Way base w (.slice A n c) ms) : n = ms.length ∧ ∃ evs : List Value, evs.length = ms.length ∧ w.ownsRow base 83 9 (.slice A n c) ms.length (flatM (ms.zip evs)) ∧ (∀ p ∈ ms.zip evs, EntsB 0 w p.2 p.1.ents) ∧
    (0 < n → ∃ g, A = some ⟨g, 0, none⟩ ∧ ∀ j u, (flatM (ms.zip evs))[j]? = some u → w.cell? ⟨g, j, none⟩ = some u) := by
  obtain ⟨A', c', hf⟩ := h.form
  obtain ⟨evs, h1, h2, h3⟩ := h
  have hn : n = ms.length := by injection hf
  refine ⟨hn, evs, h1, h2, h3, fun h0 => ?_⟩
  rcases h2.2 with ⟨e1, e2⟩ | ⟨g, cap, cur, e1, _, hh, _⟩
  · omega
  · refine ⟨g, by injection e1, fun j u hj => ?_⟩
    have hc := h2.cells (g := g) (by rw [e1]; rfl) j u hj
    rw [addr_add, Nat.zero_add] at hc
    exact hc
section
variable {B : Nat} {w0 w : World} {c R : Nat} {C : cl.Clu} {F : Nat → Fp} {k : Nat} {wv : Value}
/-- a row of messages is another one now -/
theorem CluAt.setWay {w' : World} {S : List Nat} {v' : Value} {ms' : List rf.Msg} (h : CluAt B w0 w c R C F k wv) (hA : Apart S w w') (hS : ∀ x ∈ S, w0.heap.size ≤ x ∧ ∃ cur, w.heap[x]? = some (.cells cur 83 (0, 0)))
    (hv : Way w0.heap.size w' v' ms') (hl : ms'.length ≤ 2000) : CluAt B w0 (w'.setCell ⟨c, 1, none⟩ v') c R { C with way := ms' } F k v' := by
  have hty : ∀ x ∈ S, ∀ vs t, Vb w x vs t → t = 83 := fun x hx vs t ht => by
    obtain ⟨_, cur, e⟩ := hS x hx
    unfold Vb at ht
    rw [ht] at e
    injection e with e
    injection e
  have hno : ∀ x ∈ S, NotEnt w x := fun x hx cur2 e2 => by
    obtain ⟨_, cur, e⟩ := hS x hx
    rw [e] at e2
    injection e2 with e2
    injection e2 with _ e2 _
    exact absurd e2 (by decide)
  have hge : ∀ x ∈ S, w0.heap.size ≤ x := fun x hx => (hS x hx).1
  have hmap : ∀ x ∈ S, ∀ b M, FMap w b M → x ≠ b := fun x hx b M hb e => by
    subst e
    obtain ⟨_, cur, e⟩ := hS x hx
    obtain ⟨es, cc, hb2, _⟩ := hb
    rw [e] at hb2
    cases hb2
  obtain ⟨us, r1, r2⟩ := h.row
  have hcS : c ∉ S := fun hx => absurd (hty c hx _ _ h.blk) (by decide)
  have hRS : R ∉ S := fun hx => absurd (hty R hx _ _ r1) (by decide)
  have hA2 := Apart.setCell w' c 1 v'
  have hb1 := h.blk.apart hA hcS
  have hne2 : ∀ x ∈ [c], NotEnt w' x := fun x hx => by
    obtain rfl : x = c := by simpa using hx
    exact notEnt_of hb1 (by decide)
  have hge2 : ∀ x ∈ [c], w0.heap.size ≤ x := fun x hx => by
    obtain rfl : x = c := by simpa using hx
    exact h.hc
  refine ⟨(h.bel.trans (hA.below _ h.bel.size hge)).trans (hA2.below _ (Nat.le_trans h.bel.size hA.size) hge2), hb1.set 1 v', h.hc, h.hR, ⟨us, (r1.apart hA hRS).apart hA2 (fun hx => ?_), r2⟩, h.n7, fun j hj => ?_, hv.apart hA2 hne2 fun x hx cur e => ?_, hl, h.sep⟩
  · have : R = c := by simpa using hx
    exact ne_of_type r1 h.blk (by decide) this
  · have pj := h.peers j hj
    have p1 := pj.apart hA hno hge fun y hy hyS => by
      unfold Fp.blocks at hy
      split at hy
      · rename_i hu
        obtain ⟨_, _, v3, v4, _⟩ := pj.up hu
        simp only [List.mem_cons, List.not_mem_nil, or_false] at hy
        rcases hy with rfl | rfl | rfl | rfl | rfl
        · exact absurd (hty _ hyS _ _ pj.blk) (by decide)
        · exact absurd (hty _ hyS _ _ pj.disk.dk.blk) (by decide)
        · exact hmap _ hyS _ _ pj.disk.dk.map rfl
        · exact absurd (hty _ hyS _ _ v3) (by decide)
        · exact absurd (hty _ hyS _ _ v4) (by decide)
      · simp only [List.mem_cons, List.not_mem_nil, or_false] at hy
        rcases hy with rfl | rfl | rfl
        · exact absurd (hty _ hyS _ _ pj.blk) (by decide)
        · exact absurd (hty _ hyS _ _ pj.disk.dk.blk) (by decide)
        · exact hmap _ hyS _ _ pj.disk.dk.map rfl
    refine p1.apart hA2 hne2 hge2 fun y hy hyc => ?_
    obtain rfl : y = c := by simpa using hyc
    unfold Fp.blocks at hy
    split at hy
    · rename_i hu
      obtain ⟨_, _, v3, v4, _⟩ := p1.up hu
      simp only [List.mem_cons, List.not_mem_nil, or_false] at hy
      rcases hy with e | e | e | e | e
      · exact ne_of_type hb1 p1.blk (by decide) e
      · exact ne_of_type hb1 p1.disk.dk.blk (by decide) e
      · exact ne_map hb1 p1.disk.dk.map e
      · exact ne_of_type hb1 v3 (by decide) e
      · exact ne_of_type hb1 v4 (by decide) e
    · simp only [List.mem_cons, List.not_mem_nil, or_false] at hy
      rcases hy with e | e | e
      · exact ne_of_type hb1 p1.blk (by decide) e
      · exact ne_of_type hb1 p1.disk.dk.blk (by decide) e
      · exact ne_map hb1 p1.disk.dk.map e
  · obtain rfl : x = c := by simpa using hx
    unfold Vb at hb1
    rw [hb1] at e
    injection e with e
    injection e with _ e _
    exact absurd e (by decide)
/-- the row of the messages, as a block -/
theorem CluAt.wayRow (h : CluAt B w0 w c R C F k wv) {g : Nat} (hg : wv.ownBlock = some g) : w0.heap.size ≤ g ∧ ∃ cur, w.heap[g]? = some (.cells cur 83 (0, 0)) := by
  obtain ⟨evs, _, h2, _⟩ := h.way
  rcases h2.2 with ⟨e1, _⟩ | ⟨y, cap, cur, e1, hb, hh, _⟩
  · rw [e1] at hg; cases hg
  · obtain rfl : y = g := by rw [e1] at hg; simpa [Value.ownBlock] using hg
    exact ⟨hb, cur, hh⟩
end
theorem Sent.way {base b2 : Nat} {w : World} {sv : Value} {ms : List rf.Msg} (h : Sent base w sv ms) (hb : b2 ≤ base) : Way b2 w sv ms := by
  obtain ⟨evs, h1, h2, h3⟩ := h
  refine ⟨evs, h1, ⟨h2.1, ?_⟩, fun p hp => (h3 p hp).re⟩
  rcases h2.2 with h4 | ⟨g, cap, cur, e, hg, hr⟩
  · exact .inl h4
  · exact .inr ⟨g, cap, cur, e, Nat.le_trans hb hg, hr⟩
/-- blocks of the cluster's own -/
def MineT (t : TypeId) : Prop := t = 67 ∨ t = 90 ∨ t = 121 ∨ t = 63 ∨ t = 83
def Mine (o : Obj) : Prop := ∃ cur t z, o = .cells cur t z ∧ MineT t
/-- all else stays -/
structure Stay (F : Nat → Fp) (n : Nat) (w w' : World) : Prop where
  os : w'.os = w.os
  tape : w'.tape = w.tape
  output : w'.output = w.output
  size : w.heap.size ≤ w'.heap.size
  block : ∀ x o, w.heap[x]? = some o → ¬ Mine o → (∀ i, i < n → x ≠ (F i).b) → w'.heap[x]? = some o
theorem Stay.refl (F : Nat → Fp) (n : Nat) (w : World) : Stay F n w w := ⟨rfl, rfl, rfl, Nat.le_refl _, fun _ _ h _ _ => h⟩
theorem Stay.trans {F : Nat → Fp} {n : Nat} {a b c : World} (h : Stay F n a b) (k : Stay F n b c) : Stay F n a c :=
  ⟨k.os.trans h.os, k.tape.trans h.tape, k.output.trans h.output, Nat.le_trans h.size k.size, fun x o hx hm hb => k.block x o (h.block x o hx hm hb) hm hb⟩
theorem Stay.of_apart {F : Nat → Fp} {n : Nat} {S : List Nat} {w w' : World} (hA : Apart S w w') (hS : ∀ x ∈ S, (∃ vs t, Vb w x vs t ∧ MineT t) ∨ ∃ i, i < n ∧ x = (F i).b) : Stay F n w w' :=
  ⟨hA.os, hA.tape, hA.output, hA.size, fun x o hx hm hb => by
    have hlt : x < w.heap.size := (Array.getElem?_eq_some_iff.1 hx).1
    rw [hA.block x hlt (fun hxs => ?_)]
    · exact hx
    · rcases hS x hxs with ⟨vs, t, h1, h2⟩ | ⟨i, hi, e⟩
      · unfold Vb at h1
        rw [hx] at h1
        injection h1 with h1
        exact hm ⟨_, _, _, h1, h2⟩
      · exact hb i hi e⟩
theorem Stay.of_below {F : Nat → Fp} {n : Nat} {w w' : World} (h : Below w.heap.size w w') : Stay F n w w' := Stay.of_apart (Apart.of_below h []) fun _ hx => by cases hx
theorem Stay.fp {F F' : Nat → Fp} {n : Nat} {w w' : World} (h : Stay F n w w') (e : ∀ i, i < n → (F' i).b = (F i).b) : Stay F' n w w' :=
  ⟨h.os, h.tape, h.output, h.size, fun x o hx hm hb => h.block x o hx hm fun i hi => by rw [← e i hi]; exact hb i hi⟩
/-- what turned -/
theorem Stay.apart {F : Nat → Fp} {n : Nat} {w w' : World} (h : Stay F n w w') : ∃ S, Apart S w w' ∧ ∀ x ∈ S, ∃ o, w.heap[x]? = some o ∧ (Mine o ∨ ∃ i, i < n ∧ x = (F i).b) := by
  classical
  refine ⟨(List.range w.heap.size).filter (fun x => decide (w'.heap[x]? ≠ w.heap[x]?)), ⟨h.os, h.tape, h.output, h.size, fun k hk hn => ?_⟩, fun x hx => ?_⟩
  · by_cases he : w'.heap[k]? = w.heap[k]?
    · exact he
    · exact absurd (List.mem_filter.2 ⟨List.mem_range.2 hk, decide_eq_true he⟩) hn
  · obtain ⟨h1, h2⟩ := List.mem_filter.1 hx
    have h3 := List.mem_range.1 h1
    refine ⟨_, Array.getElem?_eq_getElem h3, ?_⟩
    by_cases hm : Mine w.heap[x]
    · exact .inl hm
    · by_cases hb : ∃ i, i < n ∧ x = (F i).b
      · exact .inr hb
      · exact absurd (by rw [Array.getElem?_eq_getElem h3]; exact h.block x _ (Array.getElem?_eq_getElem h3) hm fun i hi e => hb ⟨i, hi, e⟩) (of_decide_eq_true h2)
theorem Vb.stay {F : Nat → Fp} {n : Nat} {w w' : World} {x : Nat} {vs : List Value} {t : TypeId} (h : Vb w x vs t) (hs : Stay F n w w') (ht : ¬ MineT t) (hb : ∀ i, i < n → ∃ M, FMap w (F i).b M) : Vb w' x vs t := by
  unfold Vb at h ⊢
  refine hs.block x _ h ?_ fun i hi e => ?_
  · rintro ⟨cur, t', z, e, ht'⟩
    injection e with _ e _
    exact ht (e ▸ ht')
  · obtain ⟨M, hM⟩ := hb i hi
    exact ne_map (w := w) h hM e
end Go.Proofs.YtmcibggjolckoaaGreatDoor
