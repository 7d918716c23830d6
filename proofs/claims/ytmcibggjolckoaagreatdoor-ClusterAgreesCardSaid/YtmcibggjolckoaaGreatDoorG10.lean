/- WlUse, WlCut: one behind the other. -/
import Derived.Test.YtmcibggjolckoaaGreatDoorG9
namespace Go.Proofs.YtmcibggjolckoaaGreatDoor
open Go Go.RowKit
set_option maxRecDepth 100000

namespace wl
open vd
/-- a disk of one file, all of it synced -/
def st (c : Nat) (n : Name) (S : List UInt8) (k : Int) : Disk := ⟨c, [(n, (S, S.length))], false, 0, k⟩
variable {c : Nat} {n : Name} {S : List UInt8} {k : Int}
theorem st_quiet : Quiet (st c n S k) := ⟨rfl, rfl⟩
theorem st_at : at_ (st c n S k).files n = (S, S.length) := by show at_ [(n, (S, S.length))] n = _; unfold at_; rw [if_pos rfl]
theorem st_has : has (st c n S k).files n = true := by show has [(n, (S, S.length))] n = _; unfold has; rw [if_pos rfl]
theorem st_put (f : File) : vd.put (st c n S k).files n f = [(n, f)] := by show vd.put [(n, (S, S.length))] n f = _; unfold vd.put; rw [if_pos rfl]
theorem st_del {o : Name} (h : n ≠ o) : vd.del (st c n S k).files o = [(n, (S, S.length))] := by
  show vd.del [(n, (S, S.length))] o = _
  unfold vd.del
  rw [if_neg h]; rfl
theorem st_total : total (st c n S k).files = S.length := by show total [(n, (S, S.length))] = _; unfold total; simp
theorem st_ok (hc : c ≤ 1000000000) (hS : S.length ≤ c) (hn : n.length ≤ 60) : Ok (st c n S k) where
  cap := hc
  tot := by rw [st_total]; exact hS
  nod := by show (List.map (fun x : Name × File => x.1) [(n, (S, S.length))]).Nodup; simp
  syn := by
    intro x hx
    rw [show (st c n S k).files = [(n, (S, S.length))] from rfl, List.mem_singleton] at hx
    subst hx; exact Nat.le_refl _
  nam := by
    intro x hx
    rw [show (st c n S k).files = [(n, (S, S.length))] from rfl, List.mem_singleton] at hx
    subst hx; exact hn
  lef := by show 0 ≤ _; omega
theorem st_open (hn : openE n = true) (ts : List (List UInt8)) (hf : ∀ t ∈ ts, t.length ≤ 65535) : open_ (st c n (crcm.flat ts) k) n = (st c n (crcm.flat ts) k, ts, 0) := by
  rw [open_whole st_quiet hn st_has ts (by rw [st_at]; exact allOf_whole ts hf), st_at, st_put]
  rfl
theorem st_new (hn : openE n = true) (hc : c ≤ 1000000000) : open_ ⟨c, [], false, 0, k⟩ n = (st c n [] k, [], 0) := by
  have hok : Ok ⟨c, [], false, 0, k⟩ := ⟨hc, Nat.zero_le _, List.nodup_nil, fun x hx => (by cases hx), fun x hx => (by cases hx), by show 0 ≤ _; omega⟩
  rw [open_new ⟨rfl, rfl⟩ hok hn rfl (by show 0 < 200; omega)]
  rfl
theorem st_append {l : L} (hl : l.off = false) (hln : l.name = n) (hn : openE n = true) (ls : List (List UInt8)) (hf : ∀ t ∈ ls, t.length ≤ 65535) (hr : S.length + (crcm.flat ls).length ≤ c) :
    append (st c n S k) l ls = (st c n (S ++ crcm.flat ls) k, { l with many := l.many + ls.length }, 0) := by
  subst hln
  rw [append_log st_quiet hl (good_of hn).1 st_has ls hf (by rw [st_total]; exact hr), st_at, st_put]
  rfl
theorem st_reset {l : L} (hl : l.off = false) (hln : l.name = n) (hn : openE n = true) (hc : c ≤ 1000000000) (ls : List (List UInt8)) (hf : ∀ t ∈ ls, t.length ≤ 65535) (hr : S.length + (crcm.flat ls).length ≤ c) :
    reset (st c n S k) l ls = (st c n (crcm.flat ls) k, { l with many := ls.length }, 0) := by
  subst hln
  obtain ⟨_, _, h3⟩ := good_of hn
  have hnl : l.name.length ≤ 60 := good_len (good_of hn).1
  rw [reset_log st_quiet (st_ok hc (by omega) hnl) hl hn ls hf (by show 1 < 200; omega) (by rw [st_del h3, show total [(l.name, (S, S.length))] = S.length from st_total (c := c) (k := k)]; exact hr), st_del h3]
  show (({ (st c l.name S k) with files := vd.put [(l.name, (S, S.length))] l.name (crcm.flat ls, (crcm.flat ls).length) } : Disk), _, _) = _
  rw [show vd.put [(l.name, (S, S.length))] l.name (crcm.flat ls, (crcm.flat ls).length) = [(l.name, (crcm.flat ls, (crcm.flat ls).length))] from st_put (c := c) (k := k) _]
  rfl
end wl
/-- a slice of strings just made -/
theorem strs_new (w : World) (ls : List (List UInt8)) (vs : Array Value) (h : vs = (ls.map strV).toArray) : Strs (w.alloc (.cells vs 9)) (.slice (some ⟨w.heap.size, 0, none⟩) ls.length ls.length) ls := by
  subst h
  refine ⟨some ⟨w.heap.size, 0, none⟩, ls.length, rfl, fun k hk => ⟨_, rfl, ?_⟩⟩
  have := (Vb.new w (ls.map strV) 9).cell k (strV (ls.getD k [])) (by
    rw [List.getElem?_map, List.getElem?_eq_getElem hk, List.getD_eq_getElem?_getD, List.getElem?_eq_getElem hk]; rfl)
  have e : (⟨w.heap.size, 0, none⟩ : Addr).add k = ⟨w.heap.size, k, none⟩ := by
    cases k with
    | zero => rfl
    | succ j => simp [Addr.add]
  rw [e]; exact this
namespace wl
open vd
theorem ok_run {fs : List Op1} (h : ∀ f ∈ fs, ∀ d, Ok d → Ok (f d).1) {d : Disk} (hd : Ok d) : Ok (run fs d).1 := by
  induction fs generalizing d with
  | nil => exact hd
  | cons f r ih =>
    show Ok (if (f d).2 ≠ 0 then f d else run r (f d).1).1
    by_cases h0 : (f d).2 = 0
    · rw [if_neg (by simp [h0])]; exact ih (fun g hg => h g (by simp [hg])) (h f (by simp) d hd)
    · rw [if_pos h0]; exact h f (by simp) d hd
theorem ok_write {d : Disk} (h : Ok d) (n : Name) (s : List UInt8) : Ok (write d n s).1 := by
  unfold write writeOps
  refine ok_run (fun f hf => ?_) h
  rcases List.mem_cons.1 hf with rfl | hf
  · exact fun d h => ok_delete h _
  rcases List.mem_cons.1 hf with rfl | hf
  · exact fun d h => ok_create h _
  rcases List.mem_cons.1 hf with rfl | hf
  · exact fun d h => vd.ok_append h _ s
  rcases List.mem_cons.1 hf with rfl | hf
  · exact fun d h => ok_sync h _
  rcases List.mem_cons.1 hf with rfl | hf
  · exact fun d h => ok_rename h _ _
  cases hf
theorem ok_change {d : Disk} (h : Ok d) (l : L) (ls : List (List UInt8)) (m : Nat) (op : List UInt8 → Op1) (ho : ∀ s, Ok (op s d).1) : Ok (change d l ls m op).1 := by
  unfold change
  split
  · exact h
  · split
    · exact h
    · exact ho _
theorem ok_append {d : Disk} (h : Ok d) (l : L) (ls : List (List UInt8)) : Ok (append d l ls).1 := by
  refine ok_change h _ _ _ _ (fun s => ?_)
  unfold appendOps
  refine ok_run (fun f hf => ?_) h
  rcases List.mem_cons.1 hf with rfl | hf
  · exact fun d h => vd.ok_append h _ s
  rcases List.mem_cons.1 hf with rfl | hf
  · exact fun d h => ok_sync h _
  cases hf
theorem ok_reset {d : Disk} (h : Ok d) (l : L) (ls : List (List UInt8)) : Ok (reset d l ls).1 := ok_change h _ _ _ _ (fun s => ok_write h _ s)
/-- the capacity stays -/
theorem cap_done (d : Disk) (f2 : Files) (a : Bool) : (done d f2 a).cap = d.cap := by
  unfold done
  cases goes d a <;> by_cases h : d.left = 1 <;> simp [h, crash, less]
theorem cap_there (d : Disk) (n : Name) (f2 : Files) (a : Bool) : (there d n f2 a).1.cap = d.cap := by
  unfold there
  split
  · rfl
  · split
    · exact cap_done _ _ _
    · rfl
theorem cap_append (d : Disk) (n : Name) (s : List UInt8) : (vd.append d n s).1.cap = d.cap := by
  unfold vd.append
  split
  · rfl
  · exact cap_there _ _ _ _
theorem cap_rename (d : Disk) (n m : Name) : (vd.rename d n m).1.cap = d.cap := by
  unfold vd.rename
  split
  · rfl
  · exact cap_there _ _ _ _
theorem cap_create (d : Disk) (n : Name) : (vd.create d n).1.cap = d.cap := by
  unfold vd.create
  split
  · rfl
  · split
    · rfl
    · split
      · rfl
      · exact cap_done _ _ _
theorem cap_run {fs : List Op1} (h : ∀ f ∈ fs, ∀ d, (f d).1.cap = d.cap) (d : Disk) : (run fs d).1.cap = d.cap := by
  induction fs generalizing d with
  | nil => rfl
  | cons f r ih =>
    show (if (f d).2 ≠ 0 then f d else run r (f d).1).1.cap = _
    by_cases h0 : (f d).2 = 0
    · rw [if_neg (by simp [h0]), ih (fun g hg => h g (by simp [hg])) (f d).1, h f (by simp) d]
    · rw [if_pos h0]; exact h f (by simp) d
theorem cap_write (d : Disk) (n : Name) (s : List UInt8) : (write d n s).1.cap = d.cap := by
  unfold write writeOps
  refine cap_run (fun f hf => ?_) d
  rcases List.mem_cons.1 hf with rfl | hf
  · exact fun d => cap_there _ _ _ _
  rcases List.mem_cons.1 hf with rfl | hf
  · exact fun d => cap_create _ _
  rcases List.mem_cons.1 hf with rfl | hf
  · exact fun d => cap_append _ _ _
  rcases List.mem_cons.1 hf with rfl | hf
  · exact fun d => cap_there _ _ _ _
  rcases List.mem_cons.1 hf with rfl | hf
  · exact fun d => cap_rename _ _ _
  cases hf
theorem cap_open (d : Disk) (n : Name) : (open_ d n).1.cap = d.cap := by
  have hm : (mend d n).1.cap = d.cap := by
    unfold mend
    split
    · exact cap_write _ _ _
    · exact cap_there _ _ _ _
  unfold open_
  split
  · rfl
  · split
    · rfl
    · split
      · exact hm
      · exact hm
theorem cap_change {d : Disk} {l : L} {ls : List (List UInt8)} {m : Nat} {op : List UInt8 → Op1} (ho : ∀ s, (op s d).1.cap = d.cap) : (change d l ls m op).1.cap = d.cap := by
  unfold change
  split
  · rfl
  · split
    · rfl
    · exact ho _
theorem cap_lappend (d : Disk) (l : L) (ls : List (List UInt8)) : (append d l ls).1.cap = d.cap := by
  refine cap_change (fun s => ?_)
  unfold appendOps
  refine cap_run (fun f hf => ?_) d
  rcases List.mem_cons.1 hf with rfl | hf
  · exact fun d => cap_append _ _ _
  rcases List.mem_cons.1 hf with rfl | hf
  · exact fun d => cap_there _ _ _ _
  cases hf
theorem cap_reset (d : Disk) (l : L) (ls : List (List UInt8)) : (reset d l ls).1.cap = d.cap := cap_change (fun _ => cap_write _ _ _)
theorem told_name (l : L) (e m : Nat) : (told l e m).name = l.name := by
  unfold told
  split
  · rfl
  · split <;> rfl
theorem name_change (d : Disk) (l : L) (ls : List (List UInt8)) (m : Nat) (op : List UInt8 → Op1) : (change d l ls m op).2.1.name = l.name := by
  unfold change
  split
  · rfl
  · split
    · rfl
    · exact told_name _ _ _
end wl
/-- a disk of the caller's own -/
structure Ldk (w0 w : World) (p b : Nat) (d : vd.Disk) : Prop where
  bel : Below w0.heap.size w0 w
  dk : Dk w p b d
  hp : w0.heap.size ≤ p
  hb : w0.heap.size ≤ b
  ok : vd.Ok d
  cap : d.cap ≤ 10000000
theorem Ldk.next {w0 w w' : World} {p b : Nat} {d d2 : vd.Disk} {S : List Nat} (h : Ldk w0 w p b d) (hA : Apart S w w') (hS : ∀ x ∈ S, w0.heap.size ≤ x) (hd : Dk w' p b d2) (ho : vd.Ok d2) (hc : d2.cap = d.cap) : Ldk w0 w' p b d2 :=
  ⟨h.bel.trans (hA.below _ h.bel.size hS), hd, h.hp, h.hb, ho, by rw [hc]; exact h.cap⟩
theorem Ldk.later {w0 w w' : World} {p b : Nat} {d : vd.Disk} (h : Ldk w0 w p b d) (hb : Below w.heap.size w w') : Ldk w0 w' p b d :=
  ⟨h.bel.trans (hb.mono h.bel.size), ⟨(hb.block _ h.dk.blk.lt).trans h.dk.blk, h.dk.map.below hb⟩, h.hp, h.hb, h.ok, h.cap⟩
theorem ok_empty (c : Nat) (h : c ≤ 10000000) (k : Int) : vd.Ok ⟨c, [], false, 0, k⟩ := ⟨by show c ≤ _; omega, Nat.zero_le _, List.nodup_nil, fun x hx => (by cases hx), fun x hx => (by cases hx), by show 0 ≤ _; omega⟩
theorem ld_new {w0 w : World} (c : Nat) (hc : c ≤ 10000000) (hw : Below w0.heap.size w0 w) :
    Calls Tryz.prog 31 #[.int .i64 (c : Int)] w (fun e w' => ∃ p b, e = .returned (.pointer (some ⟨p, 0, none⟩)) ∧ Ldk w0 w' p b ⟨c, [], false, 0, 0⟩ ∧ Below w.heap.size w w') :=
  (vd_new c w (by omega)).mono (by
    rintro e w' ⟨p, b, h1, h2, h3, h4, h5⟩
    exact ⟨p, b, h1, ⟨hw.trans (h5.mono hw.size), h4, Nat.le_trans hw.size h2, Nat.le_trans hw.size h3, ok_empty c hc 0, hc⟩, h5⟩)
/-- what a call of Open hands its caller -/
def LOpened (w0 w : World) (p b : Nat) (d : vd.Disk) (n : vd.Name) (e : Ending) (w' : World) : Prop :=
  ∃ lv A c g, e = .returned (.tuple #[lv, .slice A (wl.open_ d n).2.1.length c, .int .i64 ((wl.open_ d n).2.2 : Nat)]) ∧ Ldk w0 w' p b (wl.open_ d n).1 ∧ Apart [p, b] w w' ∧ w.heap.size ≤ g ∧ (∀ w'', Apart [p, b, g] w' w'' → Strs w'' (.slice A (wl.open_ d n).2.1.length c) (wl.open_ d n).2.1) ∧
    ((wl.open_ d n).2.2 = 0 → lv = .pointer (some ⟨g, 0, none⟩) ∧ Lg w' g p ⟨n, (wl.open_ d n).2.1.length, false⟩) ∧ ((wl.open_ d n).2.2 ≠ 0 → lv = .pointer none) ∧ w'.ownsRow w.heap.size 9 1 (.slice A (wl.open_ d n).2.1.length c) (wl.open_ d n).2.1.length ((wl.open_ d n).2.1.map strV)
theorem ld_open {w0 w : World} {p b : Nat} {d : vd.Disk} (n : vd.Name) (h : Ldk w0 w p b d) (hn : n.length ≤ 200) (ht : TabAt w0) :
    Calls Tryz.prog 54 #[.pointer (some ⟨p, 0, none⟩), .string (crcm.mk n)] w (LOpened w0 w p b d n) := by
  have ht1 := ht.below h.bel ht.1
  refine (wal_open n h.dk h.ok h.cap hn ht1 ht1.1).mono ?_
  rintro e w' ⟨lv, tv, g, h1, h2, h3, h4, h5, h6, h7, h8, h10⟩
  obtain ⟨A, c, h9, _⟩ := h6 w' (.refl _ _)
  subst h9
  exact ⟨lv, A, c, g, h1, h.next h3 (by have := h.hp; have := h.hb; simp; omega) h2 h4 (wl.cap_open d n), h3, h5, h6, h7, h8, h10⟩
theorem LOpened.ok {w0 w : World} {p b : Nat} {d d2 : vd.Disk} {n : vd.Name} {e : Ending} {w' : World} {ts : List (List UInt8)} (h : LOpened w0 w p b d n e w') (he : wl.open_ d n = (d2, ts, 0)) :
    ∃ A c g, e = .returned (.tuple #[.pointer (some ⟨g, 0, none⟩), .slice A ts.length c, .int .i64 0]) ∧ Ldk w0 w' p b d2 ∧ Apart [p, b] w w' ∧ w.heap.size ≤ g ∧ (∀ w'', Apart [p, b, g] w' w'' → Strs w'' (.slice A ts.length c) ts) ∧ Lg w' g p ⟨n, ts.length, false⟩ := by
  unfold LOpened at h
  rw [he] at h
  obtain ⟨lv, A, c, g, h1, h2, h3, h4, h5, h6, _⟩ := h
  obtain ⟨rfl, h7⟩ := h6 rfl
  exact ⟨A, c, g, h1, h2, h3, h4, h5, h7⟩
theorem LOpened.own {w0 w : World} {p b : Nat} {d d2 : vd.Disk} {n : vd.Name} {e : Ending} {w' : World} {ts : List (List UInt8)} (h : LOpened w0 w p b d n e w') (he : wl.open_ d n = (d2, ts, 0)) :
    ∃ A c g, e = .returned (.tuple #[.pointer (some ⟨g, 0, none⟩), .slice A ts.length c, .int .i64 0]) ∧ Ldk w0 w' p b d2 ∧ Apart [p, b] w w' ∧ w.heap.size ≤ g ∧ Lg w' g p ⟨n, ts.length, false⟩ ∧ w'.ownsRow w.heap.size 9 1 (.slice A ts.length c) ts.length (ts.map strV) := by
  unfold LOpened at h
  rw [he] at h
  obtain ⟨lv, A, c, g, h1, h2, h3, h4, h5, h6, _, h8⟩ := h
  obtain ⟨rfl, h7⟩ := h6 rfl
  exact ⟨A, c, g, h1, h2, h3, h4, h7, h8⟩
theorem LOpened.no {w0 w : World} {p b : Nat} {d d2 : vd.Disk} {n : vd.Name} {e : Ending} {w' : World} {ts : List (List UInt8)} {er : Nat} (h : LOpened w0 w p b d n e w') (he : wl.open_ d n = (d2, ts, er)) (h0 : er ≠ 0) :
    ∃ A c, e = .returned (.tuple #[.pointer none, .slice A ts.length c, .int .i64 (er : Nat)]) ∧ Ldk w0 w' p b d2 ∧ Apart [p, b] w w' := by
  unfold LOpened at h
  rw [he] at h
  obtain ⟨lv, A, c, g, h1, h2, h3, _, _, _, h6, _⟩ := h
  obtain rfl := h6 h0
  exact ⟨A, c, h1, h2, h3⟩
section
variable {w0 w : World} {p b g : Nat} {d : vd.Disk} {l : wl.L}
theorem ld_reset (v : Value) (ls : List (List UInt8)) (h : Ldk w0 w p b d) (hg : Lg w g p l) (hgb : w0.heap.size ≤ g) (hv : Strs w v ls) (hf : (crcm.flat ls).length ≤ 1000000000) (hl : ls.length ≤ 1000000000) (hm : l.name.length ≤ 200) (ht : TabAt w0) :
    Calls Tryz.prog 71 #[.pointer (some ⟨g, 0, none⟩), v] w (fun e w' => e = .returned (.int .i64 ((wl.reset d l ls).2.2 : Nat)) ∧ Ldk w0 w' p b (wl.reset d l ls).1 ∧ Lg w' g p (wl.reset d l ls).2.1 ∧ Apart [p, b, g] w w') :=
  (wal_reset v ls hg h.dk h.ok hv hf hl (ht.below h.bel ht.1) hm).mono (by
    rintro e w' ⟨h1, h2, h3, h4⟩
    exact ⟨h1, h.next h4 (by have := h.hp; have := h.hb; simp; omega) h2 (wl.ok_reset h.ok l ls) (wl.cap_reset d l ls), h3, h4⟩)
end
end Go.Proofs.YtmcibggjolckoaaGreatDoor
namespace Go.Proofs.YtmcibggjolckoaaGreatDoor
open Go Go.RowKit
set_option maxRecDepth 100000

namespace vd
theorem trim_whole (k : Int) (S : List UInt8) : trim k (S, S.length) = (S, S.length) := by
  have h := stay_le k (S, S.length)
  have h2 : stay k (S, S.length) = 0 := by simp at h; exact h
  unfold trim
  rw [h2]
  simp
theorem trim_part (k : Int) (S s : List UInt8) : ∃ q, trim k (S ++ s, S.length) = (S ++ s.take q, (S ++ s.take q).length) := by
  have h := stay_le k (S ++ s, S.length)
  refine ⟨stay k (S ++ s, S.length), ?_⟩
  obtain ⟨q, hq⟩ : ∃ q, stay k (S ++ s, S.length) = q := ⟨_, rfl⟩
  rw [hq] at h ⊢
  simp at h
  unfold trim
  rw [hq]
  have e : (S ++ s).take (S.length + q) = S ++ s.take q := by rw [List.take_append, List.take_of_length_le (by omega)]; simp
  show ((S ++ s).take (S.length + q), S.length + q) = _
  rw [e, List.length_append, List.length_take]
  congr 1
  omega
theorem at_mapF (φ : Name → File → File) (M : Files) (n : Name) (h : has M n = true) : at_ (mapF φ M) n = φ n (at_ M n) := by
  induction M with
  | nil => simp [has] at h
  | cons x r ih =>
    obtain ⟨m, g⟩ := x
    unfold has at h
    show at_ ((m, φ m g) :: mapF φ r) n = _
    unfold at_
    by_cases hm : m = n
    · rw [if_pos hm, if_pos hm, hm]
    · rw [if_neg hm] at h
      rw [if_neg hm, if_neg hm, ih h]
theorem has_mapF (φ : Name → File → File) (M : Files) (n : Name) : has (mapF φ M) n = has M n := by
  induction M with
  | nil => rfl
  | cons x r ih =>
    obtain ⟨m, g⟩ := x
    show has ((m, φ m g) :: mapF φ r) n = _
    unfold has
    rw [ih]
theorem err_up {d : Disk} (h : d.off = false) {n : Name} (hn : good n = true) : nameErr d.off [n] = 0 := by unfold nameErr; rw [h]; simp [hn]
theorem there_up {d : Disk} (h : d.off = false) {n : Name} (hn : good n = true) (hh : has d.files n = true) (f2 : Files) (a : Bool) : there d n f2 a = (done d f2 a, doneE d) := by
  unfold there; rw [err_up h hn, hh]; rfl
theorem there_gone {d : Disk} (h : d.off = false) {n : Name} (hn : good n = true) (hh : has d.files n = false) (f2 : Files) (a : Bool) : there d n f2 a = (d, 3) := by
  unfold there; rw [err_up h hn, hh]; rfl
/-- a call that is not the last one -/
theorem done_on {d : Disk} (h : d.left ≠ 1) (f2 : Files) (a : Bool) : done d f2 a = { less d with files := f2 } ∧ doneE d = 0 := by
  refine ⟨?_, by unfold doneE; rw [if_neg h]⟩
  unfold done
  have : goes d a = true := by unfold goes; rw [decide_eq_true h]; rfl
  rw [this]
  show (if d.left = 1 then _ else _) = _
  rw [if_neg h]; rfl
/-- .. and the last one -/
theorem done_last {d : Disk} (h : d.left = 1) (f2 : Files) (a : Bool) : (∃ M, (M = f2 ∨ (a = false ∧ M = d.files)) ∧ done d f2 a = ⟨d.cap, mapF (fun _ f => trim d.keep f) M, true, 0, d.keep⟩) ∧ doneE d = 6 := by
  refine ⟨?_, by unfold doneE; rw [if_pos h]⟩
  have hl : (less d).left = 0 := by show d.left - 1 = 0; rw [h]
  cases hg : goes d a with
  | true =>
    refine ⟨f2, .inl rfl, ?_⟩
    unfold done
    rw [hg]
    show (if d.left = 1 then _ else _) = _
    rw [if_pos h]
    show (⟨d.cap, mapF _ f2, true, d.left - 1, d.keep⟩ : Disk) = _
    rw [h]
  | false =>
    have ha : a = false := by
      cases a with
      | false => rfl
      | true => unfold goes at hg; simp at hg
    refine ⟨d.files, .inr ⟨ha, rfl⟩, ?_⟩
    unfold done
    rw [hg]
    show (if d.left = 1 then _ else _) = _
    rw [if_pos h]
    show (⟨d.cap, mapF _ d.files, true, d.left - 1, d.keep⟩ : Disk) = _
    rw [h]
end vd
namespace wl
open vd
theorem run_stop {f : Op1} {r : List Op1} {d d' : Disk} {e : Nat} (h : f d = (d', e)) (h0 : e ≠ 0) : run (f :: r) d = (d', e) := by
  show (if (f d).2 ≠ 0 then f d else run r (f d).1) = _
  rw [h, if_pos h0]
/-- the disk behind a call that may have been cut: it runs, and holds the one file; or it does not, and holds one of some -/
structure Cut (c : Nat) (k : Int) (n : Name) (good : List UInt8) (P : List UInt8 → Prop) (r : Disk × Nat) : Prop where
  here : ∃ M j, r.1 = ⟨c, M, decide (r.2 ≠ 0), j, k⟩ ∧ has M n = true ∧ ((r.2 = 0 ∧ at_ M n = (good, good.length)) ∨ (r.2 = 6 ∧ ∃ S, P S ∧ at_ M n = (S, S.length)))
theorem mapF_one (k : Int) (n : Name) (f : File) : mapF (fun _ f => trim k f) [(n, f)] = [(n, trim k f)] := rfl
theorem append_cut {c : Nat} {k : Int} {n : Name} {S s : List UInt8} (j : Nat) (hn : openE n = true) (hr : S.length + s.length ≤ c) :
    ∃ T j' e, run (appendOps n s) ⟨c, [(n, (S, S.length))], false, j, k⟩ = (⟨c, [(n, (T, T.length))], decide (e ≠ 0), j', k⟩, e) ∧ ((e = 0 ∧ T = S ++ s) ∨ (e = 6 ∧ ∃ q, T = S ++ s.take q)) := by
  obtain ⟨g1, _, _⟩ := good_of hn
  have at1 : ∀ f : File, at_ [(n, f)] n = f := fun f => by unfold at_; rw [if_pos rfl]
  have has1 : ∀ f : File, has [(n, f)] n = true := fun f => by unfold has; rw [if_pos rfl]
  have put1 : ∀ f g : File, vd.put [(n, f)] n g = [(n, g)] := fun f g => by unfold vd.put; rw [if_pos rfl]
  have a1 : vd.append ⟨c, [(n, (S, S.length))], false, j, k⟩ n s = (done ⟨c, [(n, (S, S.length))], false, j, k⟩ [(n, (S ++ s, S.length))] true, doneE ⟨c, [(n, (S, S.length))], false, j, k⟩) := by
    unfold vd.append
    rw [if_neg (by show ¬ (_ ∧ _ ∧ c < total [(n, (S, S.length))] + s.length); rw [show total [(n, (S, S.length))] = S.length from by simp [total]]; omega)]
    rw [there_up rfl g1 (has1 _)]
    show (done _ (vd.put [(n, (S, S.length))] n ((at_ [(n, (S, S.length))] n).1 ++ s, (at_ [(n, (S, S.length))] n).2)) true, _) = _
    rw [at1, put1]
  by_cases h1 : j = 1
  · obtain ⟨⟨M, hM, h2⟩, h3⟩ := done_last (d := ⟨c, [(n, (S, S.length))], false, j, k⟩) h1 [(n, (S ++ s, S.length))] true
    obtain rfl : M = [(n, (S ++ s, S.length))] := by
      rcases hM with h | h
      · exact h
      · cases h.1
    rw [h2, h3] at a1
    obtain ⟨q, hq⟩ := trim_part k S s
    refine ⟨S ++ s.take q, 0, 6, ?_, .inr ⟨rfl, q, rfl⟩⟩
    have hrun := run_stop (r := [fun d => vd.sync d n]) (f := fun d => vd.append d n s) a1 (by simp)
    rw [mapF_one, show trim (⟨c, [(n, (S, S.length))], false, j, k⟩ : Disk).keep (S ++ s, S.length) = _ from hq] at hrun
    exact hrun
  · obtain ⟨h2, h3⟩ := done_on (d := ⟨c, [(n, (S, S.length))], false, j, k⟩) h1 [(n, (S ++ s, S.length))] true
    rw [h2, h3] at a1
    have a1' : vd.append ⟨c, [(n, (S, S.length))], false, j, k⟩ n s = (⟨c, [(n, (S ++ s, S.length))], false, j - 1, k⟩, 0) := a1
    have hrun := run_ok (r := [fun d => vd.sync d n]) (f := fun d => vd.append d n s) a1'
    rw [show run (appendOps n s) ⟨c, [(n, (S, S.length))], false, j, k⟩ = _ from hrun]
    obtain ⟨j1, hj1⟩ : ∃ j1, j - 1 = j1 := ⟨_, rfl⟩
    rw [hj1]
    have a2 : vd.sync ⟨c, [(n, (S ++ s, S.length))], false, j1, k⟩ n = (done ⟨c, [(n, (S ++ s, S.length))], false, j1, k⟩ [(n, (S ++ s, (S ++ s).length))] false, doneE ⟨c, [(n, (S ++ s, S.length))], false, j1, k⟩) := by
      unfold vd.sync
      rw [there_up rfl g1 (has1 _)]
      show (done _ (vd.put [(n, (S ++ s, S.length))] n ((at_ [(n, (S ++ s, S.length))] n).1, (at_ [(n, (S ++ s, S.length))] n).1.length)) false, _) = _
      rw [at1, put1]
    by_cases h4 : j1 = 1
    · obtain ⟨⟨M, hM, h5⟩, h6⟩ := done_last (d := ⟨c, [(n, (S ++ s, S.length))], false, j1, k⟩) h4 [(n, (S ++ s, (S ++ s).length))] false
      rw [h5, h6] at a2
      have hrun2 := run_stop (r := []) (f := fun d => vd.sync d n) a2 (by simp)
      rcases hM with rfl | ⟨_, rfl⟩
      · refine ⟨S ++ s, 0, 6, ?_, .inr ⟨rfl, s.length, by rw [List.take_length]⟩⟩
        rw [mapF_one, show trim (⟨c, [(n, (S ++ s, S.length))], false, j1, k⟩ : Disk).keep (S ++ s, (S ++ s).length) = _ from trim_whole _ _] at hrun2
        exact hrun2
      · obtain ⟨q, hq⟩ := trim_part k S s
        refine ⟨S ++ s.take q, 0, 6, ?_, .inr ⟨rfl, q, rfl⟩⟩
        have h7 := hrun2
        rw [mapF_one, show trim (⟨c, [(n, (S ++ s, S.length))], false, j1, k⟩ : Disk).keep (S ++ s, S.length) = _ from hq] at h7
        exact h7
    · obtain ⟨h5, h6⟩ := done_on (d := ⟨c, [(n, (S ++ s, S.length))], false, j1, k⟩) h4 [(n, (S ++ s, (S ++ s).length))] false
      rw [h5, h6] at a2
      exact ⟨S ++ s, j1 - 1, 0, run_ok (r := []) (f := fun d => vd.sync d n) a2, .inl ⟨rfl, rfl⟩⟩
theorem write_cut {c : Nat} {k : Int} {n : Name} {S s : List UInt8} (j : Nat) (hn : openE n = true) (hr : S.length + s.length ≤ c) :
    Cut c k n s (fun T => T = S ∨ T = s) (write ⟨c, [(n, (S, S.length))], false, j, k⟩ n s) := by
  obtain ⟨g1, g2, g3⟩ := good_of hn
  unfold write
  obtain ⟨o, ho⟩ : ∃ o, n ++ [43] = o := ⟨_, rfl⟩
  rw [ho] at g2 g3 ⊢
  have at1 : ∀ (f : File) (r : Files), at_ ((n, f) :: r) n = f := fun f r => by unfold at_; rw [if_pos rfl]
  have has1 : ∀ (f : File) (r : Files), has ((n, f) :: r) n = true := fun f r => by unfold has; rw [if_pos rfl]
  have at2 : ∀ f g : File, at_ [(n, f), (o, g)] o = g := fun f g => by unfold at_; rw [if_neg g3]; unfold at_; rw [if_pos rfl]
  have has2 : ∀ f g : File, has [(n, f), (o, g)] o = true := fun f g => by unfold has; rw [if_neg g3]; unfold has; rw [if_pos rfl]
  have put2 : ∀ f g h : File, vd.put [(n, f), (o, g)] o h = [(n, f), (o, h)] := fun f g h => by unfold vd.put; rw [if_neg g3]; unfold vd.put; rw [if_pos rfl]
  have no2 : ∀ f : File, has [(n, f)] o = false := fun f => by unfold has; rw [if_neg g3]; rfl
  -- whatever of these is cut down: the file stays
  have hcr : ∀ (M : Files) (e : Nat), has M n = true → at_ M n = (S, S.length) ∨ at_ M n = (s, s.length) → e = 6 → Cut c k n s (fun T => T = S ∨ T = s) (⟨c, mapF (fun _ f => trim k f) M, true, 0, k⟩, e) := by
    rintro M e hh ha rfl
    refine ⟨_, 0, rfl, by rw [has_mapF]; exact hh, .inr ⟨rfl, ?_⟩⟩
    rcases ha with h | h
    · exact ⟨S, .inl rfl, by rw [at_mapF _ _ _ hh, h]; exact trim_whole _ _⟩
    · exact ⟨s, .inr rfl, by rw [at_mapF _ _ _ hh, h]; exact trim_whole _ _⟩
  have a0 : del ⟨c, [(n, (S, S.length))], false, j, k⟩ o = (⟨c, [(n, (S, S.length))], false, j, k⟩, 0) := by
    unfold del vd.delete
    rw [there_gone rfl g2 (no2 _)]; rfl
  have a1 : vd.create ⟨c, [(n, (S, S.length))], false, j, k⟩ o = (done ⟨c, [(n, (S, S.length))], false, j, k⟩ [(n, (S, S.length)), (o, ([], 0))] false, doneE ⟨c, [(n, (S, S.length))], false, j, k⟩) := by
    have hp : vd.put [(n, (S, S.length))] o ([], 0) = [(n, (S, S.length)), (o, ([], 0))] := by unfold vd.put; rw [if_neg g3]; rfl
    unfold vd.create
    rw [err_up rfl g2]
    show (if (0 : Nat) ≠ 0 then _ else if has [(n, (S, S.length))] o = true then _ else if 200 ≤ [(n, (S, S.length))].length then _ else (done _ (vd.put [(n, (S, S.length))] o ([], 0)) false, _)) = _
    rw [if_neg (by simp), no2, if_neg (by simp), if_neg (by simp), hp]
  rw [show run (writeOps o n s) ⟨c, [(n, (S, S.length))], false, j, k⟩ = run [fun d => vd.create d o, fun d => vd.append d o s, fun d => vd.sync d o, fun d => vd.rename d o n] ⟨c, [(n, (S, S.length))], false, j, k⟩ from run_ok a0]
  by_cases h1 : j = 1
  · obtain ⟨⟨M, hM, h2⟩, h3⟩ := done_last (d := ⟨c, [(n, (S, S.length))], false, j, k⟩) h1 [(n, (S, S.length)), (o, ([], 0))] false
    rw [h2, h3] at a1
    rw [run_stop a1 (by simp)]
    rcases hM with rfl | ⟨_, rfl⟩
    · exact hcr _ _ (has1 _ _) (.inl (at1 _ _)) rfl
    · exact hcr _ _ (has1 _ _) (.inl (at1 _ _)) rfl
  obtain ⟨h2, h3⟩ := done_on (d := ⟨c, [(n, (S, S.length))], false, j, k⟩) h1 [(n, (S, S.length)), (o, ([], 0))] false
  rw [h2, h3] at a1
  have a1' : vd.create ⟨c, [(n, (S, S.length))], false, j, k⟩ o = (⟨c, [(n, (S, S.length)), (o, ([], 0))], false, j - 1, k⟩, 0) := a1
  rw [run_ok a1']
  obtain ⟨j1, hj1⟩ : ∃ j1, j - 1 = j1 := ⟨_, rfl⟩
  rw [hj1]
  have a2 : vd.append ⟨c, [(n, (S, S.length)), (o, ([], 0))], false, j1, k⟩ o s = (done ⟨c, [(n, (S, S.length)), (o, ([], 0))], false, j1, k⟩ [(n, (S, S.length)), (o, (s, 0))] true, doneE ⟨c, [(n, (S, S.length)), (o, ([], 0))], false, j1, k⟩) := by
    unfold vd.append
    rw [if_neg (by show ¬ (_ ∧ _ ∧ c < total [(n, (S, S.length)), (o, ([], 0))] + s.length); rw [show total [(n, (S, S.length)), (o, ([], 0))] = S.length from by simp [total]]; omega)]
    rw [there_up rfl g2 (has2 _ _)]
    show (done _ (vd.put [(n, (S, S.length)), (o, ([], 0))] o ((at_ [(n, (S, S.length)), (o, ([], 0))] o).1 ++ s, (at_ [(n, (S, S.length)), (o, ([], 0))] o).2)) true, _) = _
    rw [at2, put2]; rfl
  by_cases h4 : j1 = 1
  · obtain ⟨⟨M, hM, h5⟩, h6⟩ := done_last (d := ⟨c, [(n, (S, S.length)), (o, ([], 0))], false, j1, k⟩) h4 [(n, (S, S.length)), (o, (s, 0))] true
    rw [h5, h6] at a2
    rw [run_stop a2 (by simp)]
    rcases hM with rfl | ⟨h, _⟩
    · exact hcr _ _ (has1 _ _) (.inl (at1 _ _)) rfl
    · cases h
  obtain ⟨h5, h6⟩ := done_on (d := ⟨c, [(n, (S, S.length)), (o, ([], 0))], false, j1, k⟩) h4 [(n, (S, S.length)), (o, (s, 0))] true
  rw [h5, h6] at a2
  have a2' : vd.append ⟨c, [(n, (S, S.length)), (o, ([], 0))], false, j1, k⟩ o s = (⟨c, [(n, (S, S.length)), (o, (s, 0))], false, j1 - 1, k⟩, 0) := a2
  rw [run_ok a2']
  obtain ⟨j2, hj2⟩ : ∃ j2, j1 - 1 = j2 := ⟨_, rfl⟩
  rw [hj2]
  have a3 : vd.sync ⟨c, [(n, (S, S.length)), (o, (s, 0))], false, j2, k⟩ o = (done ⟨c, [(n, (S, S.length)), (o, (s, 0))], false, j2, k⟩ [(n, (S, S.length)), (o, (s, s.length))] false, doneE ⟨c, [(n, (S, S.length)), (o, (s, 0))], false, j2, k⟩) := by
    unfold vd.sync
    rw [there_up rfl g2 (has2 _ _)]
    show (done _ (vd.put [(n, (S, S.length)), (o, (s, 0))] o ((at_ [(n, (S, S.length)), (o, (s, 0))] o).1, (at_ [(n, (S, S.length)), (o, (s, 0))] o).1.length)) false, _) = _
    rw [at2, put2]
  by_cases h7 : j2 = 1
  · obtain ⟨⟨M, hM, h8⟩, h9⟩ := done_last (d := ⟨c, [(n, (S, S.length)), (o, (s, 0))], false, j2, k⟩) h7 [(n, (S, S.length)), (o, (s, s.length))] false
    rw [h8, h9] at a3
    rw [run_stop a3 (by simp)]
    rcases hM with rfl | ⟨_, rfl⟩
    · exact hcr _ _ (has1 _ _) (.inl (at1 _ _)) rfl
    · exact hcr _ _ (has1 _ _) (.inl (at1 _ _)) rfl
  obtain ⟨h8, h9⟩ := done_on (d := ⟨c, [(n, (S, S.length)), (o, (s, 0))], false, j2, k⟩) h7 [(n, (S, S.length)), (o, (s, s.length))] false
  rw [h8, h9] at a3
  have a3' : vd.sync ⟨c, [(n, (S, S.length)), (o, (s, 0))], false, j2, k⟩ o = (⟨c, [(n, (S, S.length)), (o, (s, s.length))], false, j2 - 1, k⟩, 0) := a3
  rw [run_ok a3']
  obtain ⟨j3, hj3⟩ : ∃ j3, j2 - 1 = j3 := ⟨_, rfl⟩
  rw [hj3]
  have hdel : vd.del [(n, (S, S.length)), (o, (s, s.length))] o = [(n, (S, S.length))] := by
    unfold vd.del; rw [if_neg g3]
    unfold vd.del; rw [if_pos rfl]
  have a4 : vd.rename ⟨c, [(n, (S, S.length)), (o, (s, s.length))], false, j3, k⟩ o n = (done ⟨c, [(n, (S, S.length)), (o, (s, s.length))], false, j3, k⟩ [(n, (s, s.length))] false, doneE ⟨c, [(n, (S, S.length)), (o, (s, s.length))], false, j3, k⟩) := by
    unfold vd.rename
    have : nameErr false [o, n] = 0 := by unfold nameErr; simp [g1, g2]
    show (if nameErr false [o, n] ≠ 0 then _ else there _ _ _ _) = _
    rw [this, if_neg (by simp), there_up rfl g2 (has2 _ _)]
    show (done _ (vd.put (vd.del [(n, (S, S.length)), (o, (s, s.length))] o) n (at_ [(n, (S, S.length)), (o, (s, s.length))] o)) false, _) = _
    rw [at2, hdel]
    unfold vd.put; rw [if_pos rfl]
  by_cases h10 : j3 = 1
  · obtain ⟨⟨M, hM, h11⟩, h12⟩ := done_last (d := ⟨c, [(n, (S, S.length)), (o, (s, s.length))], false, j3, k⟩) h10 [(n, (s, s.length))] false
    rw [h11, h12] at a4
    rw [run_stop a4 (by simp)]
    rcases hM with rfl | ⟨_, rfl⟩
    · exact hcr _ _ (has1 _ _) (.inr (at1 _ _)) rfl
    · exact hcr _ _ (has1 _ _) (.inl (at1 _ _)) rfl
  obtain ⟨h11, h12⟩ := done_on (d := ⟨c, [(n, (S, S.length)), (o, (s, s.length))], false, j3, k⟩) h10 [(n, (s, s.length))] false
  rw [h11, h12] at a4
  have a4' : vd.rename ⟨c, [(n, (S, S.length)), (o, (s, s.length))], false, j3, k⟩ o n = (⟨c, [(n, (s, s.length))], false, j3 - 1, k⟩, 0) := a4
  rw [run_ok a4']
  exact ⟨_, _, rfl, has1 _ _, .inl ⟨rfl, at1 _ _⟩⟩
/-- the texts of a beginning of texts' bytes -/
theorem cut_some (ls : List (List UInt8)) (hf : ∀ t ∈ ls, t.length ≤ 65535) : ∀ k, k ≤ (crcm.flat ls).length → ∃ want, want ≤ ls.length ∧ (crcm.flat (ls.take want)).length ≤ k ∧ (want < ls.length → k < (crcm.flat (ls.take want)).length + 6 + (ls.getD want []).length) := by
  induction ls with
  | nil => exact fun k hk => ⟨0, Nat.le_refl _, Nat.zero_le _, fun h => by simp at h⟩
  | cons t r ih =>
    intro k hk
    have ht := hf t (by simp)
    by_cases h : k < 6 + t.length
    · exact ⟨0, Nat.zero_le _, Nat.zero_le _, fun _ => by simp [crcm.flat]; omega⟩
    · rw [crcm.flat_cons, List.length_append, crcm.body_len] at hk
      obtain ⟨w, h1, h2, h3⟩ := ih (fun x hx => hf x (by simp [hx])) (k - (6 + t.length)) (by omega)
      refine ⟨w + 1, by simp; exact h1, ?_, fun hw => ?_⟩
      · rw [List.take_succ_cons, crcm.flat_cons, List.length_append, crcm.body_len]; omega
      · have := h3 (by simpa using hw)
        rw [List.take_succ_cons, crcm.flat_cons, List.length_append, crcm.body_len, List.getD_cons_succ]; omega
theorem flat_mono (ls : List (List UInt8)) (a b : Nat) (h : a ≤ b) : (crcm.flat (ls.take a)).length ≤ (crcm.flat (ls.take b)).length := by
  have : ls.take b = ls.take a ++ (ls.take b).drop a := by
    have h1 := (List.take_append_drop a (ls.take b)).symm
    rw [List.take_take, Nat.min_eq_left h] at h1
    exact h1
  rw [this, crcm.flat_append, List.length_append]
  omega
/-- a log whose last texts were cut -/
theorem open_cut {c : Nat} {k : Int} {n : Name} (hn : openE n = true) (hc : c ≤ 1000000000) (a b : List (List UInt8)) (ha : ∀ t ∈ a, t.length ≤ 65535) (hb : ∀ t ∈ b, t.length ≤ 65535) (q : Nat) (hr : 2 * ((crcm.flat a).length + (crcm.flat b).length) ≤ c) :
    ∃ m, m ≤ b.length ∧ open_ (st c n (crcm.flat a ++ (crcm.flat b).take q) k) n = (st c n (crcm.flat (a ++ b.take m)) k, a ++ b.take m, 0) := by
  obtain ⟨q', hq', hT⟩ : ∃ q', q' ≤ (crcm.flat b).length ∧ (crcm.flat b).take q = (crcm.flat b).take q' := by
    rcases Nat.lt_or_ge (crcm.flat b).length q with h | h
    · exact ⟨(crcm.flat b).length, Nat.le_refl _, by rw [List.take_length, List.take_of_length_le (by omega)]⟩
    · exact ⟨q, h, rfl⟩
  rw [hT]
  obtain ⟨m, h1, h2, h3⟩ := cut_some b hb q' hq'
  have hall : crcm.allOf (crcm.flat a ++ (crcm.flat b).take q') = (a ++ b.take m, (crcm.flat (a ++ b.take m)).length) := by
    have e1 : crcm.flat a ++ (crcm.flat b).take q' = (crcm.flat (a ++ b)).take ((crcm.flat a).length + q') := by
      rw [crcm.flat_append, List.take_append, List.take_of_length_le (l := crcm.flat a) (by omega), Nat.add_sub_cancel_left]
    rw [e1, crcm.allOf_flat a b ha _ (by omega), show (crcm.flat a).length + q' - (crcm.flat a).length = q' from by omega, crcm.cut_all b hb m q' h1 h2 h3, crcm.flat_append, List.length_append]
  refine ⟨m, h1, ?_⟩
  have hl : ((crcm.flat b).take q').length = q' := by rw [List.length_take]; omega
  have hft : ∀ t ∈ a ++ b.take m, t.length ≤ 65535 := by
    intro t ht
    rcases List.mem_append.1 ht with h | h
    · exact ha t h
    · exact hb t (List.mem_of_mem_take h)
  obtain ⟨T, hTT⟩ : ∃ T, crcm.flat a ++ (crcm.flat b).take q' = T := ⟨_, rfl⟩
  have hTl : T.length = (crcm.flat a).length + q' := by rw [← hTT, List.length_append, hl]
  rw [hTT] at hall ⊢
  by_cases hend : (crcm.flat (a ++ b.take m)).length < T.length
  · obtain ⟨g1, g2, g3⟩ := good_of hn
    have hrd := read_quiet (d := st c n T k) st_quiet g1
    rw [st_has] at hrd
    simp only [if_true] at hrd
    rw [st_at] at hrd
    have htk : T.take (crcm.flat (a ++ b.take m)).length = crcm.flat (a ++ b.take m) := by
      rw [← hTT, crcm.flat_append]
      have e2 : crcm.flat (b.take m) = (crcm.flat b).take (crcm.flat (b.take m)).length := by
        have : b = b.take m ++ b.drop m := (List.take_append_drop m b).symm
        have h5 : crcm.flat b = crcm.flat (b.take m) ++ crcm.flat (b.drop m) := by rw [← crcm.flat_append, List.take_append_drop]
        rw [h5, List.take_append]
        simp
      rw [List.length_append, List.take_append, List.take_of_length_le (by omega), List.take_take]
      congr 1
      rw [e2]
      congr 1
      rw [← e2]
      omega
    have hfl : (crcm.flat (a ++ b.take m)).length ≤ (crcm.flat a).length + (crcm.flat b).length := by omega
    have hm : mend (st c n T k) n = (st c n (crcm.flat (a ++ b.take m)) k, 0) := by
      rw [mend_eq hrd, hall]
      show (if 0 = 3 ∨ (crcm.flat (a ++ b.take m)).length < T.length then write _ n (T.take (crcm.flat (a ++ b.take m)).length) else _) = _
      rw [if_pos (.inr hend), htk, write_quiet st_quiet (st_ok hc (by omega) (good_len g1)) hn _ (by show 1 < 200; omega) (by rw [st_del g3, show total [(n, (T, T.length))] = T.length from st_total (c := c) (k := k)]; show _ ≤ c; omega), st_del g3]
      show (({ (st c n T k) with files := vd.put [(n, (T, T.length))] n (crcm.flat (a ++ b.take m), (crcm.flat (a ++ b.take m)).length) } : Disk), 0) = _
      rw [show vd.put [(n, (T, T.length))] n (crcm.flat (a ++ b.take m), (crcm.flat (a ++ b.take m)).length) = _ from st_put (c := c) (k := k) _]
      rfl
    rw [open_eq hn hrd, if_neg (by simp), hm, hall]
    rfl
  · have hTe : T = crcm.flat (a ++ b.take m) := by
      have hle : (crcm.flat (a ++ b.take m)).length ≤ T.length := by
        rw [crcm.flat_append, List.length_append, hTl]; omega
      have h6 : (crcm.flat b).take q' = crcm.flat (b.take m) := by
        have h5 : crcm.flat b = crcm.flat (b.take m) ++ crcm.flat (b.drop m) := by rw [← crcm.flat_append, List.take_append_drop]
        have h7 : (crcm.flat (b.take m)).length = q' := by
          rw [crcm.flat_append, List.length_append, hTl] at hend; omega
        rw [h5, ← h7, List.take_left]
      rw [← hTT, h6, ← crcm.flat_append]
    rw [hTe]
    exact st_open hn _ hft
end wl
end Go.Proofs.YtmcibggjolckoaaGreatDoor
