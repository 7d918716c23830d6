/- The disk and its logs as a caller has them; one file alone. -/
import Derived.Test.YtdnoeahhidmkbaaDoorWlLaw
namespace Go.Proofs.YtdnoeahhidmkbaaDoor
open Go Go.RowKit
set_option maxRecDepth 100000

namespace wl
open vd
/-- a disk of one file, all of it synced -/
def st (c : Nat) (n : Name) (S : List UInt8) (k : Int) : Disk := ⟨c, [(n, (S, S.length))], false, 0, k⟩
variable {c : Nat} {n : Name} {S : List UInt8} {k : Int}
theorem st_quiet : Quiet (st c n S k) := ⟨rfl, rfl⟩
theorem st_at : at_ (st c n S k).files n = (S, S.length) := by show at_ [(n, (S, S.length))] n = _; unfold at_; rw [if_pos rfl]
theorem st_has : has (st c n S k).files n = true := by show has [(n, (S, S.length))] n = _; unfold has; rw [if_pos rfl]
theorem st_put (f : File) : vd.put (st c n S k).files n f = [(n, f)] := by show vd.put [(n, (S, S.length))] n f = _; unfold vd.put; rw [if_pos rfl]
theorem st_del {o : Name} (h : n ≠ o) : vd.del (st c n S k).files o = [(n, (S, S.length))] := by
  show vd.del [(n, (S, S.length))] o = _
  unfold vd.del
  rw [if_neg h]; rfl
theorem st_total : total (st c n S k).files = S.length := by show total [(n, (S, S.length))] = _; unfold total; simp
theorem st_ok (hc : c ≤ 1000000000) (hS : S.length ≤ c) (hn : n.length ≤ 60) : Ok (st c n S k) where
  cap := hc
  tot := by rw [st_total]; exact hS
  nod := by show (List.map (fun x : Name × File => x.1) [(n, (S, S.length))]).Nodup; simp
  syn := by
    intro x hx
    rw [show (st c n S k).files = [(n, (S, S.length))] from rfl, List.mem_singleton] at hx
    subst hx; exact Nat.le_refl _
  nam := by
    intro x hx
    rw [show (st c n S k).files = [(n, (S, S.length))] from rfl, List.mem_singleton] at hx
    subst hx; exact hn
  lef := by show 0 ≤ _; omega
theorem st_open (hn : openE n = true) (ts : List (List UInt8)) (hf : ∀ t ∈ ts, t.length ≤ 65535) : open_ (st c n (crcm.flat ts) k) n = (st c n (crcm.flat ts) k, ts, 0) := by
  rw [open_whole st_quiet hn st_has ts (by rw [st_at]; exact allOf_whole ts hf), st_at, st_put]
  rfl
theorem st_new (hn : openE n = true) (hc : c ≤ 1000000000) : open_ ⟨c, [], false, 0, k⟩ n = (st c n [] k, [], 0) := by
  have hok : Ok ⟨c, [], false, 0, k⟩ := ⟨hc, Nat.zero_le _, List.nodup_nil, fun x hx => (by cases hx), fun x hx => (by cases hx), by show 0 ≤ _; omega⟩
  rw [open_new ⟨rfl, rfl⟩ hok hn rfl (by show 0 < 200; omega)]
  rfl
theorem st_append {l : L} (hl : l.off = false) (hln : l.name = n) (hn : openE n = true) (ls : List (List UInt8)) (hf : ∀ t ∈ ls, t.length ≤ 65535) (hr : S.length + (crcm.flat ls).length ≤ c) :
    append (st c n S k) l ls = (st c n (S ++ crcm.flat ls) k, { l with many := l.many + ls.length }, 0) := by
  subst hln
  rw [append_log st_quiet hl (good_of hn).1 st_has ls hf (by rw [st_total]; exact hr), st_at, st_put]
  rfl
theorem st_reset {l : L} (hl : l.off = false) (hln : l.name = n) (hn : openE n = true) (hc : c ≤ 1000000000) (ls : List (List UInt8)) (hf : ∀ t ∈ ls, t.length ≤ 65535) (hr : S.length + (crcm.flat ls).length ≤ c) :
    reset (st c n S k) l ls = (st c n (crcm.flat ls) k, { l with many := ls.length }, 0) := by
  subst hln
  obtain ⟨_, _, h3⟩ := good_of hn
  have hnl : l.name.length ≤ 60 := good_len (good_of hn).1
  rw [reset_log st_quiet (st_ok hc (by omega) hnl) hl hn ls hf (by show 1 < 200; omega) (by rw [st_del h3, show total [(l.name, (S, S.length))] = S.length from st_total (c := c) (k := k)]; exact hr), st_del h3]
  show (({ (st c l.name S k) with files := vd.put [(l.name, (S, S.length))] l.name (crcm.flat ls, (crcm.flat ls).length) } : Disk), _, _) = _
  rw [show vd.put [(l.name, (S, S.length))] l.name (crcm.flat ls, (crcm.flat ls).length) = [(l.name, (crcm.flat ls, (crcm.flat ls).length))] from st_put (c := c) (k := k) _]
  rfl
end wl
/-- a slice of strings just made -/
theorem strs_new (w : World) (ls : List (List UInt8)) (vs : Array Value) (h : vs = (ls.map strV).toArray) : Strs (w.alloc (.cells vs 9)) (.slice (some ⟨w.heap.size, 0, none⟩) ls.length ls.length) ls := by
  subst h
  refine ⟨some ⟨w.heap.size, 0, none⟩, ls.length, rfl, fun k hk => ⟨_, rfl, ?_⟩⟩
  have := (Vb.new w (ls.map strV) 9).cell k (strV (ls.getD k [])) (by
    rw [List.getElem?_map, List.getElem?_eq_getElem hk, List.getD_eq_getElem?_getD, List.getElem?_eq_getElem hk]; rfl)
  have e : (⟨w.heap.size, 0, none⟩ : Addr).add k = ⟨w.heap.size, k, none⟩ := by
    cases k with
    | zero => rfl
    | succ j => simp [Addr.add]
  rw [e]; exact this
namespace wl
open vd
theorem ok_run {fs : List Op1} (h : ∀ f ∈ fs, ∀ d, Ok d → Ok (f d).1) {d : Disk} (hd : Ok d) : Ok (run fs d).1 := by
  induction fs generalizing d with
  | nil => exact hd
  | cons f r ih =>
    show Ok (if (f d).2 ≠ 0 then f d else run r (f d).1).1
    by_cases h0 : (f d).2 = 0
    · rw [if_neg (by simp [h0])]; exact ih (fun g hg => h g (by simp [hg])) (h f (by simp) d hd)
    · rw [if_pos h0]; exact h f (by simp) d hd
theorem ok_write {d : Disk} (h : Ok d) (n : Name) (s : List UInt8) : Ok (write d n s).1 := by
  unfold write writeOps
  refine ok_run (fun f hf => ?_) h
  rcases List.mem_cons.1 hf with rfl | hf
  · exact fun d h => ok_delete h _
  rcases List.mem_cons.1 hf with rfl | hf
  · exact fun d h => ok_create h _
  rcases List.mem_cons.1 hf with rfl | hf
  · exact fun d h => vd.ok_append h _ s
  rcases List.mem_cons.1 hf with rfl | hf
  · exact fun d h => ok_sync h _
  rcases List.mem_cons.1 hf with rfl | hf
  · exact fun d h => ok_rename h _ _
  cases hf
theorem ok_change {d : Disk} (h : Ok d) (l : L) (ls : List (List UInt8)) (m : Nat) (op : List UInt8 → Op1) (ho : ∀ s, Ok (op s d).1) : Ok (change d l ls m op).1 := by
  unfold change
  split
  · exact h
  · split
    · exact h
    · exact ho _
theorem ok_append {d : Disk} (h : Ok d) (l : L) (ls : List (List UInt8)) : Ok (append d l ls).1 := by
  refine ok_change h _ _ _ _ (fun s => ?_)
  unfold appendOps
  refine ok_run (fun f hf => ?_) h
  rcases List.mem_cons.1 hf with rfl | hf
  · exact fun d h => vd.ok_append h _ s
  rcases List.mem_cons.1 hf with rfl | hf
  · exact fun d h => ok_sync h _
  cases hf
theorem ok_reset {d : Disk} (h : Ok d) (l : L) (ls : List (List UInt8)) : Ok (reset d l ls).1 := ok_change h _ _ _ _ (fun s => ok_write h _ s)
/-- the capacity stays -/
theorem cap_done (d : Disk) (f2 : Files) (a : Bool) : (done d f2 a).cap = d.cap := by
  unfold done
  cases goes d a <;> by_cases h : d.left = 1 <;> simp [h, crash, less]
theorem cap_there (d : Disk) (n : Name) (f2 : Files) (a : Bool) : (there d n f2 a).1.cap = d.cap := by
  unfold there
  split
  · rfl
  · split
    · exact cap_done _ _ _
    · rfl
theorem cap_append (d : Disk) (n : Name) (s : List UInt8) : (vd.append d n s).1.cap = d.cap := by
  unfold vd.append
  split
  · rfl
  · exact cap_there _ _ _ _
theorem cap_rename (d : Disk) (n m : Name) : (vd.rename d n m).1.cap = d.cap := by
  unfold vd.rename
  split
  · rfl
  · exact cap_there _ _ _ _
theorem cap_create (d : Disk) (n : Name) : (vd.create d n).1.cap = d.cap := by
  unfold vd.create
  split
  · rfl
  · split
    · rfl
    · split
      · rfl
      · exact cap_done _ _ _
theorem cap_run {fs : List Op1} (h : ∀ f ∈ fs, ∀ d, (f d).1.cap = d.cap) (d : Disk) : (run fs d).1.cap = d.cap := by
  induction fs generalizing d with
  | nil => rfl
  | cons f r ih =>
    show (if (f d).2 ≠ 0 then f d else run r (f d).1).1.cap = _
    by_cases h0 : (f d).2 = 0
    · rw [if_neg (by simp [h0]), ih (fun g hg => h g (by simp [hg])) (f d).1, h f (by simp) d]
    · rw [if_pos h0]; exact h f (by simp) d
theorem cap_write (d : Disk) (n : Name) (s : List UInt8) : (write d n s).1.cap = d.cap := by
  unfold write writeOps
  refine cap_run (fun f hf => ?_) d
  rcases List.mem_cons.1 hf with rfl | hf
  · exact fun d => cap_there _ _ _ _
  rcases List.mem_cons.1 hf with rfl | hf
  · exact fun d => cap_create _ _
  rcases List.mem_cons.1 hf with rfl | hf
  · exact fun d => cap_append _ _ _
  rcases List.mem_cons.1 hf with rfl | hf
  · exact fun d => cap_there _ _ _ _
  rcases List.mem_cons.1 hf with rfl | hf
  · exact fun d => cap_rename _ _ _
  cases hf
theorem cap_open (d : Disk) (n : Name) : (open_ d n).1.cap = d.cap := by
  have hm : (mend d n).1.cap = d.cap := by
    unfold mend
    split
    · exact cap_write _ _ _
    · exact cap_there _ _ _ _
  unfold open_
  split
  · rfl
  · split
    · rfl
    · split
      · exact hm
      · exact hm
theorem cap_change {d : Disk} {l : L} {ls : List (List UInt8)} {m : Nat} {op : List UInt8 → Op1} (ho : ∀ s, (op s d).1.cap = d.cap) : (change d l ls m op).1.cap = d.cap := by
  unfold change
  split
  · rfl
  · split
    · rfl
    · exact ho _
theorem cap_lappend (d : Disk) (l : L) (ls : List (List UInt8)) : (append d l ls).1.cap = d.cap := by
  refine cap_change (fun s => ?_)
  unfold appendOps
  refine cap_run (fun f hf => ?_) d
  rcases List.mem_cons.1 hf with rfl | hf
  · exact fun d => cap_append _ _ _
  rcases List.mem_cons.1 hf with rfl | hf
  · exact fun d => cap_there _ _ _ _
  cases hf
theorem cap_reset (d : Disk) (l : L) (ls : List (List UInt8)) : (reset d l ls).1.cap = d.cap := cap_change (fun _ => cap_write _ _ _)
theorem told_name (l : L) (e m : Nat) : (told l e m).name = l.name := by
  unfold told
  split
  · rfl
  · split <;> rfl
theorem name_change (d : Disk) (l : L) (ls : List (List UInt8)) (m : Nat) (op : List UInt8 → Op1) : (change d l ls m op).2.1.name = l.name := by
  unfold change
  split
  · rfl
  · split
    · rfl
    · exact told_name _ _ _
end wl
/-- a disk of the caller's own -/
structure Ldk (w0 w : World) (p b : Nat) (d : vd.Disk) : Prop where
  bel : Below w0.heap.size w0 w
  dk : Dk w p b d
  hp : w0.heap.size ≤ p
  hb : w0.heap.size ≤ b
  ok : vd.Ok d
  cap : d.cap ≤ 10000000
theorem Ldk.next {w0 w w' : World} {p b : Nat} {d d2 : vd.Disk} {S : List Nat} (h : Ldk w0 w p b d) (hA : Apart S w w') (hS : ∀ x ∈ S, w0.heap.size ≤ x) (hd : Dk w' p b d2) (ho : vd.Ok d2) (hc : d2.cap = d.cap) : Ldk w0 w' p b d2 :=
  ⟨h.bel.trans (hA.below _ h.bel.size hS), hd, h.hp, h.hb, ho, by rw [hc]; exact h.cap⟩
theorem Ldk.later {w0 w w' : World} {p b : Nat} {d : vd.Disk} (h : Ldk w0 w p b d) (hb : Below w.heap.size w w') : Ldk w0 w' p b d :=
  ⟨h.bel.trans (hb.mono h.bel.size), ⟨(hb.block _ h.dk.blk.lt).trans h.dk.blk, h.dk.map.below hb⟩, h.hp, h.hb, h.ok, h.cap⟩
theorem ok_empty (c : Nat) (h : c ≤ 10000000) (k : Int) : vd.Ok ⟨c, [], false, 0, k⟩ := ⟨by show c ≤ _; omega, Nat.zero_le _, List.nodup_nil, fun x hx => (by cases hx), fun x hx => (by cases hx), by show 0 ≤ _; omega⟩
theorem ld_new {w0 w : World} (c : Nat) (hc : c ≤ 10000000) (hw : Below w0.heap.size w0 w) :
    Calls Tryd.prog 10 #[.int .i64 (c : Int)] w (fun e w' => ∃ p b, e = .returned (.pointer (some ⟨p, 0, none⟩)) ∧ Ldk w0 w' p b ⟨c, [], false, 0, 0⟩ ∧ Below w.heap.size w w') :=
  (vd_new c w (by omega)).mono (by
    rintro e w' ⟨p, b, h1, h2, h3, h4, h5⟩
    exact ⟨p, b, h1, ⟨hw.trans (h5.mono hw.size), h4, Nat.le_trans hw.size h2, Nat.le_trans hw.size h3, ok_empty c hc 0, hc⟩, h5⟩)
/-- what a call of Open hands its caller -/
def LOpened (w0 w : World) (p b : Nat) (d : vd.Disk) (n : vd.Name) (e : Ending) (w' : World) : Prop :=
  ∃ lv A c g, e = .returned (.tuple #[lv, .slice A (wl.open_ d n).2.1.length c, .int .i64 ((wl.open_ d n).2.2 : Nat)]) ∧ Ldk w0 w' p b (wl.open_ d n).1 ∧ Apart [p, b] w w' ∧ w.heap.size ≤ g ∧ (∀ w'', Apart [p, b, g] w' w'' → Strs w'' (.slice A (wl.open_ d n).2.1.length c) (wl.open_ d n).2.1) ∧
    ((wl.open_ d n).2.2 = 0 → lv = .pointer (some ⟨g, 0, none⟩) ∧ Lg w' g p ⟨n, (wl.open_ d n).2.1.length, false⟩) ∧ ((wl.open_ d n).2.2 ≠ 0 → lv = .pointer none) ∧ w'.ownsRow w.heap.size 9 1 (.slice A (wl.open_ d n).2.1.length c) (wl.open_ d n).2.1.length ((wl.open_ d n).2.1.map strV)
theorem ld_open {w0 w : World} {p b : Nat} {d : vd.Disk} (n : vd.Name) (h : Ldk w0 w p b d) (hn : n.length ≤ 200) (ht : TabAt w0) :
    Calls Tryd.prog 11 #[.pointer (some ⟨p, 0, none⟩), .string (crcm.mk n)] w (LOpened w0 w p b d n) := by
  have ht1 := ht.below h.bel ht.1
  refine (wal_open n h.dk h.ok h.cap hn ht1 ht1.1).mono ?_
  rintro e w' ⟨lv, tv, g, h1, h2, h3, h4, h5, h6, h7, h8, h10⟩
  obtain ⟨A, c, h9, _⟩ := h6 w' (.refl _ _)
  subst h9
  exact ⟨lv, A, c, g, h1, h.next h3 (by have := h.hp; have := h.hb; simp; omega) h2 h4 (wl.cap_open d n), h3, h5, h6, h7, h8, h10⟩
theorem LOpened.ok {w0 w : World} {p b : Nat} {d d2 : vd.Disk} {n : vd.Name} {e : Ending} {w' : World} {ts : List (List UInt8)} (h : LOpened w0 w p b d n e w') (he : wl.open_ d n = (d2, ts, 0)) :
    ∃ A c g, e = .returned (.tuple #[.pointer (some ⟨g, 0, none⟩), .slice A ts.length c, .int .i64 0]) ∧ Ldk w0 w' p b d2 ∧ Apart [p, b] w w' ∧ w.heap.size ≤ g ∧ (∀ w'', Apart [p, b, g] w' w'' → Strs w'' (.slice A ts.length c) ts) ∧ Lg w' g p ⟨n, ts.length, false⟩ := by
  unfold LOpened at h
  rw [he] at h
  obtain ⟨lv, A, c, g, h1, h2, h3, h4, h5, h6, _⟩ := h
  obtain ⟨rfl, h7⟩ := h6 rfl
  exact ⟨A, c, g, h1, h2, h3, h4, h5, h7⟩
theorem LOpened.own {w0 w : World} {p b : Nat} {d d2 : vd.Disk} {n : vd.Name} {e : Ending} {w' : World} {ts : List (List UInt8)} (h : LOpened w0 w p b d n e w') (he : wl.open_ d n = (d2, ts, 0)) :
    ∃ A c g, e = .returned (.tuple #[.pointer (some ⟨g, 0, none⟩), .slice A ts.length c, .int .i64 0]) ∧ Ldk w0 w' p b d2 ∧ Apart [p, b] w w' ∧ w.heap.size ≤ g ∧ Lg w' g p ⟨n, ts.length, false⟩ ∧ w'.ownsRow w.heap.size 9 1 (.slice A ts.length c) ts.length (ts.map strV) := by
  unfold LOpened at h
  rw [he] at h
  obtain ⟨lv, A, c, g, h1, h2, h3, h4, h5, h6, _, h8⟩ := h
  obtain ⟨rfl, h7⟩ := h6 rfl
  exact ⟨A, c, g, h1, h2, h3, h4, h7, h8⟩
theorem LOpened.no {w0 w : World} {p b : Nat} {d d2 : vd.Disk} {n : vd.Name} {e : Ending} {w' : World} {ts : List (List UInt8)} {er : Nat} (h : LOpened w0 w p b d n e w') (he : wl.open_ d n = (d2, ts, er)) (h0 : er ≠ 0) :
    ∃ A c, e = .returned (.tuple #[.pointer none, .slice A ts.length c, .int .i64 (er : Nat)]) ∧ Ldk w0 w' p b d2 ∧ Apart [p, b] w w' := by
  unfold LOpened at h
  rw [he] at h
  obtain ⟨lv, A, c, g, h1, h2, h3, _, _, _, h6, _⟩ := h
  obtain rfl := h6 h0
  exact ⟨A, c, h1, h2, h3⟩
section
variable {w0 w : World} {p b g : Nat} {d : vd.Disk} {l : wl.L}
theorem ld_append (v : Value) (ls : List (List UInt8)) (h : Ldk w0 w p b d) (hg : Lg w g p l) (hgb : w0.heap.size ≤ g) (hv : Strs w v ls) (hf : (crcm.flat ls).length ≤ 1000000000) (hl : ls.length ≤ 1000000000) (hm : l.name.length ≤ 200) (hmn : l.many ≤ 1000000000) (ht : TabAt w0) :
    Calls Tryd.prog 12 #[.pointer (some ⟨g, 0, none⟩), v] w (fun e w' => e = .returned (.int .i64 ((wl.append d l ls).2.2 : Nat)) ∧ Ldk w0 w' p b (wl.append d l ls).1 ∧ Lg w' g p (wl.append d l ls).2.1 ∧ Apart [p, b, g] w w') :=
  (wal_append v ls hg h.dk h.ok hv hf hl (ht.below h.bel ht.1) hm hmn).mono (by
    rintro e w' ⟨h1, h2, h3, h4⟩
    exact ⟨h1, h.next h4 (by have := h.hp; have := h.hb; simp; omega) h2 (wl.ok_append h.ok l ls) (wl.cap_lappend d l ls), h3, h4⟩)
theorem ld_reset (v : Value) (ls : List (List UInt8)) (h : Ldk w0 w p b d) (hg : Lg w g p l) (hgb : w0.heap.size ≤ g) (hv : Strs w v ls) (hf : (crcm.flat ls).length ≤ 1000000000) (hl : ls.length ≤ 1000000000) (hm : l.name.length ≤ 200) (ht : TabAt w0) :
    Calls Tryd.prog 15 #[.pointer (some ⟨g, 0, none⟩), v] w (fun e w' => e = .returned (.int .i64 ((wl.reset d l ls).2.2 : Nat)) ∧ Ldk w0 w' p b (wl.reset d l ls).1 ∧ Lg w' g p (wl.reset d l ls).2.1 ∧ Apart [p, b, g] w w') :=
  (wal_reset v ls hg h.dk h.ok hv hf hl (ht.below h.bel ht.1) hm).mono (by
    rintro e w' ⟨h1, h2, h3, h4⟩
    exact ⟨h1, h.next h4 (by have := h.hp; have := h.hb; simp; omega) h2 (wl.ok_reset h.ok l ls) (wl.cap_reset d l ls), h3, h4⟩)
end
end Go.Proofs.YtdnoeahhidmkbaaDoor
