/- Texts that were put one behind the other: a beginning tells just those that are whole. No program. -/
import Derived.Test.YtdnoeahhidmkbaaDoorCrcText
namespace Go.Proofs.YtdnoeahhidmkbaaDoor.crcm
def flat (ls : List (List UInt8)) : List UInt8 := (ls.map body).flatten
theorem flat_cons (t : List UInt8) (ls : List (List UInt8)) : flat (t :: ls) = body t ++ flat ls := by simp [flat]
theorem flat_append (a b : List (List UInt8)) : flat (a ++ b) = flat a ++ flat b := by simp [flat]
theorem flat_snoc (a : List (List UInt8)) (t : List UInt8) : flat (a ++ [t]) = flat a ++ body t := by simp [flat]
theorem flat_len_snoc (a : List (List UInt8)) (t : List UInt8) : (flat (a ++ [t])).length = (flat a).length + (6 + t.length) := by rw [flat_snoc, List.length_append, body_len]
theorem flat_le (ls : List (List UInt8)) (h : ∀ t ∈ ls, t.length ≤ 200) : (flat ls).length ≤ 206 * ls.length := by
  induction ls with
  | nil => simp [flat]
  | cons t r ih =>
    have h1 := h t (by simp)
    have h2 := ih (fun x hx => h x (by simp [hx]))
    rw [flat_cons, List.length_append, body_len, List.length_cons]
    omega
theorem allOf_flat (a b : List (List UInt8)) (h : ∀ t ∈ a, t.length ≤ 65535) (k : Nat) (hk : (flat a).length ≤ k) :
    allOf ((flat (a ++ b)).take k) = (a ++ (allOf ((flat b).take (k - (flat a).length))).1, (flat a).length + (allOf ((flat b).take (k - (flat a).length))).2) := by
  induction a generalizing k with
  | nil => simp [flat]
  | cons t r ih =>
    have ht := h t (by simp)
    rw [flat_cons, List.length_append, body_len] at hk
    have e1 : (flat (t :: r ++ b)).take k = body t ++ (flat (r ++ b)).take (k - (6 + t.length)) := by
      rw [List.cons_append, flat_cons, List.take_append, body_len, List.take_of_length_le (by rw [body_len]; omega)]
    have hg := get_body t ((flat (r ++ b)).take (k - (6 + t.length))) ht
    have h0 : (get (body t ++ (flat (r ++ b)).take (k - (6 + t.length)))).2.2 = 0 := by rw [hg]
    rw [e1, allOf_step h0, hg]
    simp only
    rw [List.drop_left' (body_len t), ih (fun x hx => h x (by simp [hx])) _ (by omega), flat_cons, List.length_append, body_len]
    rw [show k - (6 + t.length) - (flat r).length = k - (6 + t.length + (flat r).length) from by omega]
    simp only [List.cons_append, Nat.add_assoc]
theorem allOf_none (b : List (List UInt8)) (k : Nat) (h : b = [] ∨ ∃ t r, b = t :: r ∧ t.length ≤ 65535 ∧ k < 6 + t.length) : allOf ((flat b).take k) = ([], 0) := by
  apply allOf_stop
  rcases h with rfl | ⟨t, r, rfl, ht, hk⟩
  · simp [flat, get]
  · rw [flat_cons]
    exact get_part t _ ht k hk
/-- just those that are whole -/
theorem cut_all (ls : List (List UInt8)) (h : ∀ t ∈ ls, t.length ≤ 65535) (want k : Nat) (hw : want ≤ ls.length) (hk : (flat (ls.take want)).length ≤ k)
    (hn : want < ls.length → k < (flat (ls.take want)).length + 6 + (ls.getD want []).length) : allOf ((flat ls).take k) = (ls.take want, (flat (ls.take want)).length) := by
  have h1 := allOf_flat (ls.take want) (ls.drop want) (fun t ht => h t (List.mem_of_mem_take ht)) k hk
  rw [List.take_append_drop] at h1
  have h2 : ls.drop want = [] ∨ ∃ t r, ls.drop want = t :: r ∧ t.length ≤ 65535 ∧ k - (flat (ls.take want)).length < 6 + t.length := by
    by_cases hlt : want < ls.length
    · right
      refine ⟨ls[want], ls.drop (want + 1), by rw [List.drop_eq_getElem_cons hlt], h _ (List.getElem_mem _), ?_⟩
      have := hn hlt
      rw [List.getD_eq_getElem?_getD, List.getElem?_eq_getElem hlt] at this
      simp only [Option.getD_some] at this
      omega
    · left
      exact List.drop_eq_nil_of_le (by omega)
  rw [h1, allOf_none _ _ h2]
  simp
end Go.Proofs.YtdnoeahhidmkbaaDoor.crcm
