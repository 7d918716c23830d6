/- Two logs on a disk: plain. -/
import Derived.Test.YtdnoeahhidmkbaaDoorWlUse
namespace Go.Proofs.YtdnoeahhidmkbaaDoor
open Go Go.RowKit
set_option maxRecDepth 100000

namespace wl
open vd
theorem open_bad {d : Disk} {n : Name} (h : openE n = false) : open_ d n = (d, [], 1) := by unfold open_; rw [if_pos h]
def tw (c : Nat) (a b : Name) (x y : List UInt8) : Disk := ⟨c, [(a, (x, x.length)), (b, (y, y.length))], false, 0, 0⟩
variable {c : Nat} {a b : Name} {x y : List UInt8}
theorem tw_quiet : Quiet (tw c a b x y) := ⟨rfl, rfl⟩
theorem tw_at1 : at_ (tw c a b x y).files a = (x, x.length) := by show at_ [(a, (x, x.length)), (b, (y, y.length))] a = _; unfold at_; rw [if_pos rfl]
theorem tw_has1 : has (tw c a b x y).files a = true := by show has [(a, (x, x.length)), (b, (y, y.length))] a = _; unfold has; rw [if_pos rfl]
theorem tw_at2 (h : a ≠ b) : at_ (tw c a b x y).files b = (y, y.length) := by
  show at_ [(a, (x, x.length)), (b, (y, y.length))] b = _
  unfold at_; rw [if_neg h]
  unfold at_; rw [if_pos rfl]
theorem tw_has2 (h : a ≠ b) : has (tw c a b x y).files b = true := by
  show has [(a, (x, x.length)), (b, (y, y.length))] b = _
  unfold has; rw [if_neg h]
  unfold has; rw [if_pos rfl]
theorem tw_put1 (f : File) : vd.put (tw c a b x y).files a f = [(a, f), (b, (y, y.length))] := by
  show vd.put [(a, (x, x.length)), (b, (y, y.length))] a f = _
  unfold vd.put; rw [if_pos rfl]
theorem tw_put2 (h : a ≠ b) (f : File) : vd.put (tw c a b x y).files b f = [(a, (x, x.length)), (b, f)] := by
  show vd.put [(a, (x, x.length)), (b, (y, y.length))] b f = _
  unfold vd.put; rw [if_neg h]
  unfold vd.put; rw [if_pos rfl]
theorem tw_total : total (tw c a b x y).files = x.length + y.length := by show total [(a, (x, x.length)), (b, (y, y.length))] = _; unfold total; simp
theorem tw_append1 {l : L} (hl : l.off = false) (hln : l.name = a) (hn : openE a = true) (ls : List (List UInt8)) (hf : ∀ t ∈ ls, t.length ≤ 65535) (hr : x.length + y.length + (crcm.flat ls).length ≤ c) :
    append (tw c a b x y) l ls = (tw c a b (x ++ crcm.flat ls) y, { l with many := l.many + ls.length }, 0) := by
  subst hln
  rw [append_log tw_quiet hl (good_of hn).1 tw_has1 ls hf (by rw [tw_total]; exact hr), tw_at1, tw_put1]
  rfl
theorem tw_append2 {l : L} (h : a ≠ b) (hl : l.off = false) (hln : l.name = b) (hn : openE b = true) (ls : List (List UInt8)) (hf : ∀ t ∈ ls, t.length ≤ 65535) (hr : x.length + y.length + (crcm.flat ls).length ≤ c) :
    append (tw c a b x y) l ls = (tw c a b x (y ++ crcm.flat ls), { l with many := l.many + ls.length }, 0) := by
  subst hln
  rw [append_log tw_quiet hl (good_of hn).1 (tw_has2 h) ls hf (by rw [tw_total]; exact hr), tw_at2 h, tw_put2 h]
  rfl
theorem tw_open1 (hn : openE a = true) (ts : List (List UInt8)) (hf : ∀ t ∈ ts, t.length ≤ 65535) : open_ (tw c a b (crcm.flat ts) y) a = (tw c a b (crcm.flat ts) y, ts, 0) := by
  rw [open_whole tw_quiet hn tw_has1 ts (by rw [tw_at1]; exact allOf_whole ts hf), tw_at1, tw_put1]
  rfl
theorem tw_open2 (h : a ≠ b) (hn : openE b = true) (ts : List (List UInt8)) (hf : ∀ t ∈ ts, t.length ≤ 65535) : open_ (tw c a b x (crcm.flat ts)) b = (tw c a b x (crcm.flat ts), ts, 0) := by
  rw [open_whole tw_quiet hn (tw_has2 h) ts (by rw [tw_at2 h]; exact allOf_whole ts hf), tw_at2 h, tw_put2 h]
  rfl
/-- a second log, of another name -/
theorem st_second (h : a ≠ b) (h2 : a ≠ b ++ [43]) (ha : openE a = true) (hn : openE b = true) (hc : c ≤ 1000000000) : open_ (st c a [] 0) b = (tw c a b [] [], [], 0) := by
  have hh : has (st c a [] 0).files b = false := by
    show has [(a, ([], 0))] b = false
    unfold has; rw [if_neg h]; rfl
  rw [open_new st_quiet (st_ok hc (Nat.zero_le _) (good_len (good_of ha).1)) hn hh (by show 1 < 200; omega), st_del h2]
  show (({ (st c a [] 0) with files := vd.put [(a, ([], 0))] b ([], 0) } : Disk), _, _) = _
  unfold vd.put; rw [if_neg h]
  rfl
/-- .. whose bytes beside are the first one's -/
theorem st_over (h2 : a = b ++ [43]) (hn : openE b = true) (ha : openE a = true) (hc : c ≤ 1000000000) : open_ (st c a [] 0) b = (st c b [] 0, [], 0) := by
  have h := (good_of hn).2.2
  have hh : has (st c a [] 0).files b = false := by
    show has [(a, ([], 0))] b = false
    unfold has; rw [if_neg (by rw [h2]; exact fun e => h e.symm)]; rfl
  rw [open_new st_quiet (st_ok hc (Nat.zero_le _) (good_len (good_of ha).1)) hn hh (by show 1 < 200; omega)]
  show (({ (st c a [] 0) with files := vd.put (vd.del [(a, ([], 0))] (b ++ [43])) b ([], 0) } : Disk), _, _) = _
  unfold vd.del; rw [if_pos h2]
  rfl
/-- whichever log is opened behind another one: it is there -/
theorem st_any (ha : openE a = true) (hn : openE b = true) (hc : c ≤ 1000000000) : ∃ D, open_ (st c a [] 0) b = (D, [], 0) := by
  by_cases h : a = b
  · subst h
    exact ⟨_, st_open hn [] (fun t ht => by cases ht)⟩
  · by_cases h2 : a = b ++ [43]
    · exact ⟨_, st_over h2 hn ha hc⟩
    · exact ⟨_, st_second h h2 ha hn hc⟩
theorem openE_len {n : Name} (h : openE n = true) : 1 ≤ n.length ∧ n.length ≤ 59 := by
  unfold openE at h
  rw [Bool.and_eq_true, decide_eq_true_iff, decide_eq_true_iff] at h
  refine ⟨?_, h.2⟩
  cases n with
  | nil => exact absurd rfl h.1
  | cons x r => simp
theorem openE_not {n : Name} (h : openE n = false) : n.length < 1 ∨ 59 < n.length := by
  rcases Nat.lt_or_ge n.length 1 with h1 | h1
  · exact .inl h1
  · rcases Nat.lt_or_ge 59 n.length with h2 | h2
    · exact .inr h2
    · exfalso
      have : openE n = true := by
        unfold openE
        rw [Bool.and_eq_true, decide_eq_true_iff, decide_eq_true_iff]
        refine ⟨?_, h2⟩
        rintro rfl
        simp at h1
      rw [this] at h; cases h
end wl
end Go.Proofs.YtdnoeahhidmkbaaDoor
