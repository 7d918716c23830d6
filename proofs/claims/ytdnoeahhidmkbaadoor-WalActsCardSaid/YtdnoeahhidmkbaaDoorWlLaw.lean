/- What the disk and a log come to while nothing is cut: plain. -/
import Derived.Test.YtdnoeahhidmkbaaDoorWlOpen
namespace Go.Proofs.YtdnoeahhidmkbaaDoor
open Go Go.RowKit
set_option maxRecDepth 100000

namespace vd
theorem put_put (M : Files) (n : Name) (f g : File) : put (put M n f) n g = put M n g := by
  induction M with
  | nil => simp [put]
  | cons x r ih =>
    obtain ⟨m, h⟩ := x
    by_cases hm : m = n
    · simp [put, hm]
    · simp [put, hm, ih]
theorem del_none (M : Files) (n : Name) (h : has M n = false) : del M n = M := by
  induction M with
  | nil => rfl
  | cons x r ih =>
    obtain ⟨m, g⟩ := x
    unfold has at h
    by_cases hm : m = n
    · rw [if_pos hm] at h; cases h
    · rw [if_neg hm] at h
      unfold del
      rw [if_neg hm, ih h]
theorem del_put_none (M : Files) (n : Name) (f : File) (h : has M n = false) : del (put M n f) n = M := by
  induction M with
  | nil => simp [put, del]
  | cons x r ih =>
    obtain ⟨m, g⟩ := x
    unfold has at h
    by_cases hm : m = n
    · rw [if_pos hm] at h; cases h
    · rw [if_neg hm] at h
      unfold put
      rw [if_neg hm]
      unfold del
      rw [if_neg hm, ih h]
theorem has_del (M : Files) (n : Name) (hd : (M.map (·.1)).Nodup) : has (del M n) n = false := by
  cases h : has (del M n) n with
  | false => rfl
  | true =>
    have h1 := (has_names _ _).1 h
    clear h
    induction M with
    | nil => simp [del] at h1
    | cons x r ih =>
      obtain ⟨m, g⟩ := x
      rw [List.map_cons, List.nodup_cons] at hd
      unfold del at h1
      by_cases hm : m = n
      · rw [if_pos hm] at h1
        rw [← hm] at h1
        exact absurd h1 hd.1
      · rw [if_neg hm, List.map_cons] at h1
        rcases List.mem_cons.1 h1 with e | e
        · exact absurd e.symm hm
        · exact ih hd.2 e
theorem put_len (M : Files) (n : Name) (f : File) : (put M n f).length = if has M n then M.length else M.length + 1 := by
  induction M with
  | nil => rfl
  | cons x r ih =>
    obtain ⟨m, g⟩ := x
    unfold put has
    by_cases hm : m = n
    · rw [if_pos hm, if_pos hm]; rfl
    · rw [if_neg hm, if_neg hm, List.length_cons, ih]
      cases has r n <;> rfl
theorem del_len (M : Files) (n : Name) : (del M n).length ≤ M.length := (del_sub M n).length_le
theorem total_del_le (M : Files) (n : Name) : total (del M n) ≤ total M := by have := total_del M n; omega
/-- nothing is cut -/
def Quiet (d : Disk) : Prop := d.off = false ∧ d.left = 0
theorem Quiet.files {d : Disk} (h : Quiet d) (M : Files) : Quiet { d with files := M } := h
theorem done_quiet {d : Disk} (h : Quiet d) (f2 : Files) (a : Bool) : done d f2 a = { d with files := f2 } ∧ doneE d = 0 := by
  obtain ⟨h1, h2⟩ := h
  have h3 : less d = d := by unfold less; rw [h2]; cases d; simp_all
  have h4 : goes d a = true := by unfold goes; rw [h2]; rfl
  refine ⟨?_, ?_⟩
  · unfold done
    rw [h4, h3]
    show (if d.left = 1 then _ else _) = _
    rw [if_neg (by omega)]; rfl
  · unfold doneE; rw [h2]; rfl
theorem err_quiet {d : Disk} (h : Quiet d) {n : Name} (hn : good n = true) : nameErr d.off [n] = 0 := by
  unfold nameErr; rw [h.1]; simp [hn]
theorem there_quiet {d : Disk} (h : Quiet d) {n : Name} (hn : good n = true) (hh : has d.files n = true) (f2 : Files) (a : Bool) : there d n f2 a = ({ d with files := f2 }, 0) := by
  obtain ⟨h1, h2⟩ := done_quiet h f2 a
  unfold there
  rw [err_quiet h hn, hh, h1, h2]; rfl
theorem there_none {d : Disk} (h : Quiet d) {n : Name} (hn : good n = true) (hh : has d.files n = false) (f2 : Files) (a : Bool) : there d n f2 a = (d, 3) := by
  unfold there
  rw [err_quiet h hn, hh]; rfl
end vd
namespace wl
open vd
theorem good_of {n : Name} (h : openE n = true) : good n = true ∧ good (n ++ [43]) = true ∧ n ≠ n ++ [43] := by
  unfold openE at h
  rw [Bool.and_eq_true, decide_eq_true_iff, decide_eq_true_iff] at h
  refine ⟨?_, ?_, ?_⟩
  · unfold good; rw [Bool.and_eq_true, decide_eq_true_iff, decide_eq_true_iff]; exact ⟨h.1, by omega⟩
  · unfold good; rw [Bool.and_eq_true, decide_eq_true_iff, decide_eq_true_iff, List.length_append]; exact ⟨by simp, by simp; omega⟩
  · intro e
    have := congrArg List.length e
    rw [List.length_append] at this
    simp at this
theorem run_ok {f : Op1} {r : List Op1} {d d' : Disk} (h : f d = (d', 0)) : run (f :: r) d = run r d' := by
  show (if (f d).2 ≠ 0 then f d else run r (f d).1) = _
  rw [h]; rfl
theorem mend_eq {d : Disk} {n : Name} {S : List UInt8} {e : Nat} (hr : vd.read d n = (S, e)) : mend d n = if e = 3 ∨ (crcm.allOf S).2 < S.length then write d n (S.take (crcm.allOf S).2) else vd.sync d n := by
  unfold mend; rw [hr]
theorem open_eq {d : Disk} {n : Name} {S : List UInt8} {e : Nat} (hn : openE n = true) (hr : vd.read d n = (S, e)) : open_ d n = if e ≠ 0 ∧ e ≠ 3 then (d, [], e) else if (mend d n).2 ≠ 0 then ((mend d n).1, [], (mend d n).2) else ((mend d n).1, (crcm.allOf S).1, 0) := by
  unfold open_; rw [hn, hr]; rfl
theorem change_ok {d d2 : Disk} {l : L} {ls : List (List UInt8)} {many : Nat} {op : List UInt8 → Op1} (hl : l.off = false) (hb : bytes ls = (crcm.flat ls, 0)) (h : op (crcm.flat ls) d = (d2, 0)) : change d l ls many op = (d2, { l with many := many }, 0) := by
  unfold change
  rw [if_neg (by rw [hl]; simp), hb]
  show (if (0 : Nat) ≠ 0 then _ else ((op (crcm.flat ls) d).1, told l (op (crcm.flat ls) d).2 many, (op (crcm.flat ls) d).2)) = _
  rw [if_neg (by simp), h]
  rfl
theorem del_quiet {d : Disk} (h : Quiet d) {o : Name} (ho : good o = true) : del d o = ({ d with files := vd.del d.files o }, 0) := by
  unfold del vd.delete
  cases hh : has d.files o with
  | true => rw [there_quiet h ho hh]; rfl
  | false => rw [there_none h ho hh, del_none _ _ hh]; rfl
theorem write_quiet {d : Disk} (h : Quiet d) (hok : Ok d) {n : Name} (hn : openE n = true) (s : List UInt8) (hl : d.files.length < 200) (hr : total (vd.del d.files (n ++ [43])) + s.length ≤ d.cap) :
    write d n s = ({ d with files := vd.put (vd.del d.files (n ++ [43])) n (s, s.length) }, 0) := by
  obtain ⟨g1, g2, g3⟩ := good_of hn
  obtain ⟨o, ho⟩ : ∃ o, n ++ [43] = o := ⟨_, rfl⟩
  rw [ho] at g2 g3 hr
  unfold write
  rw [ho]
  have a1 := del_quiet h g2
  obtain ⟨M, hM⟩ : ∃ M, vd.del d.files o = M := ⟨_, rfl⟩
  have hno : has M o = false := by rw [← hM]; exact has_del _ _ hok.nod
  have hML : M.length < 200 := by rw [← hM]; have := del_len d.files o; omega
  rw [hM] at a1 hr ⊢
  have q1 : Quiet { d with files := M } := h
  have a2 : vd.create { d with files := M } o = ({ d with files := vd.put M o ([], 0) }, 0) := by
    obtain ⟨h1, h2⟩ := done_quiet q1 (vd.put M o ([], 0)) false
    unfold vd.create
    rw [err_quiet q1 g2]
    show (if (0 : Nat) ≠ 0 then _ else if has M o = true then _ else if 200 ≤ M.length then _ else _) = _
    rw [if_neg (by simp), hno, if_neg (by simp), if_neg (by omega), h1, h2]
  have e2 : at_ (vd.put M o ([], 0)) o = ([], 0) := by rw [at_put, if_pos rfl]
  have e3 : has (vd.put M o ([], 0)) o = true := by rw [has_put]; simp
  have e4 : total (vd.put M o ([], 0)) = total M := by
    have := total_put M o ([], 0)
    have k : (at_ M o).1.length = 0 := by
      have h2 := total_del M o
      rw [del_none M o hno] at h2; omega
    simp at this; omega
  have q2 : Quiet { d with files := vd.put M o ([], 0) } := h
  have a3 : vd.append { d with files := vd.put M o ([], 0) } o s = ({ d with files := vd.put M o (s, 0) }, 0) := by
    unfold vd.append
    rw [if_neg]
    · rw [there_quiet q2 g2 e3]
      show (({ d with files := vd.put (vd.put M o ([], 0)) o ((at_ (vd.put M o ([], 0)) o).1 ++ s, (at_ (vd.put M o ([], 0)) o).2) } : Disk), 0) = _
      rw [e2, put_put]; rfl
    · show ¬ (_ ∧ _ ∧ d.cap < total (vd.put M o ([], 0)) + s.length)
      rw [e4]; omega
  have q3 : Quiet { d with files := vd.put M o (s, 0) } := h
  have e5 : has (vd.put M o (s, 0)) o = true := by rw [has_put]; simp
  have a4 : vd.sync { d with files := vd.put M o (s, 0) } o = ({ d with files := vd.put M o (s, s.length) }, 0) := by
    unfold vd.sync
    rw [there_quiet q3 g2 e5]
    show (({ d with files := vd.put (vd.put M o (s, 0)) o ((at_ (vd.put M o (s, 0)) o).1, (at_ (vd.put M o (s, 0)) o).1.length) } : Disk), 0) = _
    rw [at_put, if_pos rfl, put_put]
  have q4 : Quiet { d with files := vd.put M o (s, s.length) } := h
  have e6 : has (vd.put M o (s, s.length)) o = true := by rw [has_put]; simp
  have a5 : vd.rename { d with files := vd.put M o (s, s.length) } o n = ({ d with files := vd.put M n (s, s.length) }, 0) := by
    unfold vd.rename
    have : nameErr d.off [o, n] = 0 := by unfold nameErr; rw [h.1]; simp [g1, g2]
    show (if nameErr d.off [o, n] ≠ 0 then _ else there _ _ _ _) = _
    rw [this, if_neg (by simp), there_quiet q4 g2 e6]
    show (({ d with files := vd.put (vd.del (vd.put M o (s, s.length)) o) n (at_ (vd.put M o (s, s.length)) o) } : Disk), 0) = _
    rw [at_put, if_pos rfl, del_put_none _ _ _ hno]
  exact (run_ok a1).trans ((run_ok a2).trans ((run_ok a3).trans ((run_ok a4).trans (run_ok a5))))
theorem append_quiet {d : Disk} (h : Quiet d) {n : Name} (hn : good n = true) (hh : has d.files n = true) (s : List UInt8) (hr : total d.files + s.length ≤ d.cap) :
    run (appendOps n s) d = ({ d with files := vd.put d.files n ((at_ d.files n).1 ++ s, ((at_ d.files n).1 ++ s).length) }, 0) := by
  have a1 : vd.append d n s = ({ d with files := vd.put d.files n ((at_ d.files n).1 ++ s, (at_ d.files n).2) }, 0) := by
    unfold vd.append
    rw [if_neg (by omega), there_quiet h hn hh]
  have q1 : Quiet { d with files := vd.put d.files n ((at_ d.files n).1 ++ s, (at_ d.files n).2) } := h
  have e1 : has (vd.put d.files n ((at_ d.files n).1 ++ s, (at_ d.files n).2)) n = true := by rw [has_put]; simp
  have a2 : vd.sync { d with files := vd.put d.files n ((at_ d.files n).1 ++ s, (at_ d.files n).2) } n = ({ d with files := vd.put d.files n ((at_ d.files n).1 ++ s, ((at_ d.files n).1 ++ s).length) }, 0) := by
    unfold vd.sync
    rw [there_quiet q1 hn e1]
    show (({ d with files := vd.put (vd.put d.files n ((at_ d.files n).1 ++ s, (at_ d.files n).2)) n ((at_ (vd.put d.files n ((at_ d.files n).1 ++ s, (at_ d.files n).2)) n).1, (at_ (vd.put d.files n ((at_ d.files n).1 ++ s, (at_ d.files n).2)) n).1.length) } : Disk), 0) = _
    rw [at_put, if_pos rfl, put_put]
  exact (run_ok a1).trans (run_ok a2)
theorem read_quiet {d : Disk} (h : Quiet d) {n : Name} (hn : good n = true) : vd.read d n = if has d.files n then ((at_ d.files n).1, 0) else ([], 3) := by
  unfold vd.read
  rw [err_quiet h hn, if_neg (by simp)]
/-- a log that is not there yet -/
theorem open_new {d : Disk} (h : Quiet d) (hok : Ok d) {n : Name} (hn : openE n = true) (hh : has d.files n = false) (hl : d.files.length < 200) :
    open_ d n = ({ d with files := vd.put (vd.del d.files (n ++ [43])) n ([], 0) }, [], 0) := by
  have hr := read_quiet h (good_of hn).1
  rw [hh] at hr
  simp only [Bool.false_eq_true, if_false] at hr
  have hw := write_quiet h hok hn [] hl (by have := total_del_le d.files (n ++ [43]); have := hok.tot; simp; omega)
  have hm : mend d n = ({ d with files := vd.put (vd.del d.files (n ++ [43])) n ([], 0) }, 0) := by
    rw [mend_eq hr, if_pos (.inl rfl)]
    exact hw
  rw [open_eq hn hr, if_neg (by simp), hm]
  rfl
/-- a log whose file is whole -/
theorem open_whole {d : Disk} (h : Quiet d) {n : Name} (hn : openE n = true) (hh : has d.files n = true) (ts : List (List UInt8)) (ha : crcm.allOf (at_ d.files n).1 = (ts, (at_ d.files n).1.length)) :
    open_ d n = ({ d with files := vd.put d.files n ((at_ d.files n).1, (at_ d.files n).1.length) }, ts, 0) := by
  have hr := read_quiet h (good_of hn).1
  rw [hh] at hr
  simp only [if_true] at hr
  have hm : mend d n = ({ d with files := vd.put d.files n ((at_ d.files n).1, (at_ d.files n).1.length) }, 0) := by
    rw [mend_eq hr, ha, if_neg (by simp)]
    unfold vd.sync
    rw [there_quiet h (good_of hn).1 hh]
  rw [open_eq hn hr, if_neg (by simp), hm, ha]
  rfl
theorem bytes_fit (ls : List (List UInt8)) (h : ∀ t ∈ ls, t.length ≤ 65535) : bytes ls = (crcm.flat ls, 0) := by
  unfold bytes
  rw [if_pos]
  rw [List.all_eq_true]
  intro t ht
  exact decide_eq_true (h t ht)
theorem allOf_whole (ls : List (List UInt8)) (h : ∀ t ∈ ls, t.length ≤ 65535) : crcm.allOf (crcm.flat ls) = (ls, (crcm.flat ls).length) := by
  have := crcm.allOf_flat ls [] h (crcm.flat ls).length (Nat.le_refl _)
  rw [List.append_nil, List.take_length, Nat.sub_self] at this
  rw [this]
  simp [crcm.flat, crcm.allOf, crcm.all]
/-- a call of Append that is not cut -/
theorem append_log {d : Disk} (h : Quiet d) {l : L} (hl : l.off = false) (hn : good l.name = true) (hh : has d.files l.name = true) (ls : List (List UInt8)) (hf : ∀ t ∈ ls, t.length ≤ 65535) (hr : total d.files + (crcm.flat ls).length ≤ d.cap) :
    append d l ls = ({ d with files := vd.put d.files l.name ((at_ d.files l.name).1 ++ crcm.flat ls, ((at_ d.files l.name).1 ++ crcm.flat ls).length) }, { l with many := l.many + ls.length }, 0) := by
  exact change_ok hl (bytes_fit ls hf) (append_quiet h hn hh _ hr)
theorem reset_log {d : Disk} (h : Quiet d) (hok : Ok d) {l : L} (hl : l.off = false) (hn : openE l.name = true) (ls : List (List UInt8)) (hf : ∀ t ∈ ls, t.length ≤ 65535) (hL : d.files.length < 200) (hr : total (vd.del d.files (l.name ++ [43])) + (crcm.flat ls).length ≤ d.cap) :
    reset d l ls = ({ d with files := vd.put (vd.del d.files (l.name ++ [43])) l.name (crcm.flat ls, (crcm.flat ls).length) }, { l with many := ls.length }, 0) := by
  exact change_ok hl (bytes_fit ls hf) (write_quiet h hok hn _ hL hr)
end wl
end Go.Proofs.YtdnoeahhidmkbaaDoor
