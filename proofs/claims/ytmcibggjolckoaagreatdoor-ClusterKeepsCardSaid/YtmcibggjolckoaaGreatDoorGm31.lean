/- LvTime, LvVote, LvRound: one behind the other. -/
import Derived.WalkKit
import Derived.Test.YtmcibggjolckoaaGreatDoorGm30
namespace Go.Proofs.YtmcibggjolckoaaGreatDoor
namespace lv
def wt (i:Nat):Nat:=10 + 3 * i
def st (f:Nat→Nat) (i:Nat):Prop:=wt i≤f i + 1
instance (f:Nat→Nat) (i:Nat):Decidable (st f i):=inferInstanceAs (Decidable (_≤_))
def cnt (n:Nat) (p:Nat→Bool):Nat:=((List.range n).filter p).length
def Votes (n:Nat) (rk f:Nat→Nat) (i:Nat):Prop:=st f i∨∃ s,s < n∧st f s∧rk i≤rk s
structure El (n:Nat) (rk f f':Nat→Nat):Prop where
 a:∀ i,i < n→Votes n rk f i→f' i=0
 b:∀ i,i < n→¬ Votes n rk f i→f' i=f i + 1
 v:∃ v:Nat→Nat,(∀ i,i < n→Votes n rk f i→v i < n∧st f (v i)∧rk i≤rk (v i))∧(∀ i,i < n→st f i→v i=i)∧∀ s,s < n→st f s→∀ p:Nat→Bool,(∀ i,i < n→p i=true→Votes n rk f i∧v i=s)→2 * cnt n p≤n
section
variable {n:Nat} {rk f f':Nat→Nat}
theorem cnt_two (n:Nat) (p q:Nat→Bool) (h:∀ i,i < n→p i=true∨q i=true):n≤cnt n p + cnt n q:=by
 have key:∀ l:List Nat,(∀ i ∈ l,i < n)→l.length≤(l.filter p).length + (l.filter q).length:=by
  intro l hl
  induction l with
  | nil=>simp
  | cons x r ih=>
   have ih:=ih fun j hj=>hl j (List.mem_cons_of_mem _ hj)
   have hx:=h x (hl x List.mem_cons_self)
   simp only [List.filter_cons,List.length_cons]
   cases hp:p x <;> cases hq:q x <;> simp [hp,hq] at hx ⊢ <;> omega
 have:=key (List.range n) fun i hi=>List.mem_range.1 hi
 rw [List.length_range] at this
 exact this
theorem El.one (h:El n rk f f') {s:Nat} (hs:s < n) (h1:st f s) (ho:∀ i,i < n→st f i→i=s):2 * cnt n (fun i=>decide (rk i≤rk s))≤n:=by
 obtain ⟨v,v1,_,v3⟩:=h.v
 refine v3 s hs h1 _ fun i hi hp=>?_
 have hV:Votes n rk f i:=.inr ⟨s,hs,h1,by simpa using hp⟩
 obtain ⟨a1,a2,_⟩:=v1 i hi hV
 exact ⟨hV,ho _ a1 a2⟩
theorem El.two (h:El n rk f f') (hn:n % 2=1) {s u:Nat} (hs:s < n) (hu:u < n) (h1:st f s) (h2:st f u) (ho:∀ i,i < n→st f i→i=s∨i=u) (ht:∀ i,i < n→rk i≤rk u):False:=by
 obtain ⟨v,v1,_,v3⟩:=h.v
 have hV:∀ i,i < n→Votes n rk f i:=fun i hi=>.inr ⟨u,hu,h2,ht i hi⟩
 have a:=v3 s hs h1 (fun i=>decide (v i=s)) fun i hi hp=>⟨hV i hi,by simpa using hp⟩
 have b:=v3 u hu h2 (fun i=>decide (v i=u)) fun i hi hp=>⟨hV i hi,by simpa using hp⟩
 have c:=cnt_two n (fun i=>decide (v i=s)) (fun i=>decide (v i=u)) fun i hi=>by
  obtain ⟨a1,a2,_⟩:=v1 i hi (hV i hi)
  rcases ho _ a1 a2 with e | e
  ·left;simp [e]
  ·right;simp [e]
 omega
theorem El.less (h:El n rk f f') {i:Nat} (hi:i < n):f' i < wt i:=by
 by_cases hV:Votes n rk f i
 ·rw [h.a i hi hV];unfold wt;omega
 ·rw [h.b i hi hV]
  have:¬ st f i:=fun hs=>hV (.inl hs)
  unfold st at this
  omega
end
theorem ble_iff {a b:Nat}:Nat.ble a b=true ↔ a≤b:=by rw [Nat.ble_eq]
def stB (id:List Nat) (i:Nat):Bool:=Nat.ble (wt i) (id.getD i 0 + 1)
def who (n:Nat) (id:List Nat):List Nat:=(List.range n).filter (stB id)
def nextL (n:Nat) (r id:List Nat) (S:List Nat):List Nat:=(List.range n).map fun i=>if stB id i || S.any (fun s=>Nat.ble (r.getD i 0) (r.getD s 0)) then 0 else id.getD i 0 + 1
def isTop (n:Nat) (r:List Nat) (u:Nat):Bool:=(List.range n).all fun i=>Nat.ble (r.getD i 0) (r.getD u 0)
def won (n:Nat) (r:List Nat):List Nat→Bool
 | [s]=>Nat.ble (n + 1) (2 * ((List.range n).filter fun i=>Nat.ble (r.getD i 0) (r.getD s 0)).length)
 | [a,b]=>Nat.beq (n % 2) 1 && (isTop n r a || isTop n r b)
 | _=>false
def fast (n:Nat) (id:List Nat):Nat:=((List.range n).map fun i=>wt i - 1 - id.getD i 0).foldl (fun a b=>if Nat.ble a b then a else b) 100
def chk (n:Nat) (r:List Nat):Nat→Nat→List Nat→Bool
 | 0,_,_=>false
 | e + 1,k,id=>Nat.ble (fast n id + 1) k && (won n r (who n (id.map (· + fast n id))) || chk n r e (k - (fast n id + 1)) (nextL n r (id.map (· + fast n id)) (who n (id.map (· + fast n id)))))
def vecs:Nat→Nat→List (List Nat)
 | 0,_=>[[]]
 | k + 1,m=>(vecs k m).flatMap fun l=>(List.range m).map fun x=>x :: l
theorem z2:(vecs 2 2).all (fun r=>chk 2 r 6 16 [0,0])=true:=by kernel_rfl
theorem z3:(vecs 3 3).all (fun r=>chk 3 r 6 16 [0,0,0])=true:=by kernel_rfl
theorem z4:(vecs 4 4).all (fun r=>chk 4 r 6 16 [0,0,0,0])=true:=by kernel_rfl
theorem z50:(vecs 4 5).all (fun r=>chk 5 (r ++ [0]) 6 16 [0,0,0,0,0])=true:=by kernel_rfl
theorem z51:(vecs 4 5).all (fun r=>chk 5 (r ++ [1]) 6 16 [0,0,0,0,0])=true:=by kernel_rfl
theorem z52:(vecs 4 5).all (fun r=>chk 5 (r ++ [2]) 6 16 [0,0,0,0,0])=true:=by kernel_rfl
theorem z53:(vecs 4 5).all (fun r=>chk 5 (r ++ [3]) 6 16 [0,0,0,0,0])=true:=by kernel_rfl
theorem z54:(vecs 4 5).all (fun r=>chk 5 (r ++ [4]) 6 16 [0,0,0,0,0])=true:=by kernel_rfl
theorem y5a:(vecs 4 4).all (fun r=>[0,1,2,3,4,5].all fun u=>chk 5 (r ++ [4]) 6 16 [0,0,0,0,u])=true:=by kernel_rfl
theorem y5b:(vecs 4 4).all (fun r=>[6,7,8,9,10,11].all fun u=>chk 5 (r ++ [4]) 6 16 [0,0,0,0,u])=true:=by kernel_rfl
theorem y5c:(vecs 4 4).all (fun r=>[12,13,14,15,16].all fun u=>chk 5 (r ++ [4]) 6 16 [0,0,0,0,u])=true:=by kernel_rfl
theorem y5d:(vecs 4 4).all (fun r=>[17,18,19,20,21].all fun u=>chk 5 (r ++ [4]) 6 16 [0,0,0,0,u])=true:=by kernel_rfl
theorem fold_min (l:List Nat) (a:Nat):l.foldl (fun a b=>if Nat.ble a b then a else b) a≤a∧∀ x ∈ l,l.foldl (fun a b=>if Nat.ble a b then a else b) a≤x:=by
 induction l generalizing a with
 | nil=>exact ⟨Nat.le_refl _,fun x hx=>by cases hx⟩
 | cons y r ih=>
  obtain ⟨h1,h2⟩:=ih (if Nat.ble a y then a else y)
  have e:(if Nat.ble a y then a else y)≤a∧(if Nat.ble a y then a else y)≤y:=by
   by_cases h:a≤y
   ·rw [if_pos (ble_iff.2 h)];omega
   ·rw [if_neg (fun hh=>h (ble_iff.1 hh))];omega
  refine ⟨Nat.le_trans h1 e.1,fun x hx=>?_⟩
  rcases List.mem_cons.1 hx with rfl | hx
  ·exact Nat.le_trans h1 e.2
  ·exact h2 x hx
theorem fast_le {n:Nat} {id:List Nat} {i:Nat} (hi:i < n):fast n id≤wt i - 1 - id.getD i 0:=
 (fold_min _ 100).2 _ (List.mem_map.2 ⟨i,List.mem_range.2 hi,rfl⟩)
theorem map_add_getD (id:List Nat) (d i:Nat) (h:i < id.length):(id.map (· + d)).getD i 0=id.getD i 0 + d:=by
 rw [List.getD_eq_getElem?_getD,List.getD_eq_getElem?_getD,List.getElem?_map,List.getElem?_eq_getElem h]
 rfl
theorem range_getD (n:Nat) (g:Nat→Nat) {i:Nat} (h:i < n):((List.range n).map g).getD i 0=g i:=by
 rw [List.getD_eq_getElem?_getD,List.getElem?_map,List.getElem?_range h]
 rfl
section
variable {n:Nat} {rk:Nat→Nat}
theorem stB_iff {f:Nat→Nat} {id:List Nat} {i:Nat} (h:f i=id.getD i 0):stB id i=true ↔ st f i:=by
 unfold stB st
 rw [Nat.ble_eq,h]
theorem mem_who {f:Nat→Nat} {id:List Nat} (h:∀ i,i < n→f i=id.getD i 0) {i:Nat}:i ∈ who n id ↔ i < n∧st f i:=by
 unfold who
 rw [List.mem_filter,List.mem_range]
 exact ⟨fun ⟨a,b⟩=>⟨a,(stB_iff (h i a)).1 b⟩,fun ⟨a,b⟩=>⟨a,(stB_iff (h i a)).2 b⟩⟩
def Same (n:Nat) (rk:Nat→Nat) (r:List Nat):Prop:=∀ i j,i < n→j < n→(r.getD i 0≤r.getD j 0 ↔ rk i≤rk j)
theorem won_false {f f':Nat→Nat} {r id:List Nat} (hE:El n rk f f') (hr:Same n rk r) (h:∀ i,i < n→f i=id.getD i 0) (hw:won n r (who n id)=true):False:=by
 have hm:=fun i=>mem_who (n:=n) h (i:=i)
 have top:∀ u,u < n→isTop n r u=true→∀ i,i < n→rk i≤rk u:=fun u hu ht i hi=>by
  unfold isTop at ht
  exact (hr i u hi hu).1 (ble_iff.1 (List.all_eq_true.1 ht i (List.mem_range.2 hi)))
 rcases hS:who n id with _ | ⟨s,_ | ⟨u,_ | ⟨v,l⟩⟩⟩
 ·rw [hS] at hw;cases hw
 ·rw [hS] at hw hm
  obtain ⟨s1,s2⟩:=(hm s).1 (List.mem_singleton.2 rfl)
  have h1:=hE.one s1 s2 fun i hi hst=>List.mem_singleton.1 ((hm i).2 ⟨hi,hst⟩)
  have h2:=ble_iff.1 hw
  have e:(List.range n).filter (fun i=>Nat.ble (r.getD i 0) (r.getD s 0))=(List.range n).filter fun i=>decide (rk i≤rk s):=by
   apply List.filter_congr
   intro i hi
   have:=hr i s (List.mem_range.1 hi) s1
   rw [Bool.eq_iff_iff,Nat.ble_eq,decide_eq_true_eq]
   exact this
  rw [e] at h2
  unfold cnt at h1
  omega
 ·rw [hS] at hw hm
  obtain ⟨s1,s2⟩:=(hm s).1 (by simp)
  obtain ⟨u1,u2⟩:=(hm u).1 (by simp)
  have ho:∀ i,i < n→st f i→i=s∨i=u:=fun i hi hst=>by
   have:=(hm i).2 ⟨hi,hst⟩
   simpa using this
  simp only [won,Bool.and_eq_true,Bool.or_eq_true] at hw
  obtain ⟨w1,w2⟩:=hw
  have w1:n % 2=1:=Nat.beq_eq.mp w1
  rcases w2 with w2 | w2
  ·exact hE.two w1 u1 s1 u2 s2 (fun i hi hst=>(ho i hi hst).symm) (top s s1 w2)
  ·exact hE.two w1 s1 u1 s2 u2 ho (top u u1 w2)
 ·rw [hS] at hw;cases hw
theorem next_getD {f f':Nat→Nat} {r id:List Nat} (hE:El n rk f f') (hr:Same n rk r) (h:∀ i,i < n→f i=id.getD i 0) {i:Nat} (hi:i < n):f' i=(nextL n r id (who n id)).getD i 0:=by
 unfold nextL
 rw [range_getD n _ hi]
 have hV:(stB id i || (who n id).any fun s=>Nat.ble (r.getD i 0) (r.getD s 0))=true ↔ Votes n rk f i:=by
  rw [Bool.or_eq_true,List.any_eq_true]
  unfold Votes
  rw [stB_iff (h i hi)]
  constructor
  ·rintro (h1 | ⟨s,h1,h2⟩)
   ·exact .inl h1
   ·obtain ⟨a,b⟩:=(mem_who h).1 h1
    exact .inr ⟨s,a,b,(hr i s hi a).1 (ble_iff.1 h2)⟩
  ·rintro (h1 | ⟨s,a,b,h2⟩)
   ·exact .inl h1
   ·exact .inr ⟨s,(mem_who h).2 ⟨a,b⟩,ble_iff.2 ((hr i s hi a).2 h2)⟩
 by_cases hv:Votes n rk f i
 ·rw [if_pos (hV.2 hv),hE.a i hi hv]
 ·rw [if_neg (fun hh=>hv (hV.1 hh)),hE.b i hi hv,h i hi]
theorem chk_false {r:List Nat} (hr:Same n rk r):∀ (e k:Nat) (id:List Nat) (f:Nat→Nat→Nat),chk n r e k id=true→id.length=n→(∀ i,i < n→f 0 i=id.getD i 0)→(∀ t,t < k→El n rk (f t) (f (t + 1)))→False
 | 0,_,_,_,h,_,_,_=>by cases h
 | e + 1,k,id,f,h,hl,h0,hE=>by
  unfold chk at h
  obtain ⟨d,hd⟩:∃ d,fast n id=d:=⟨_,rfl⟩
  rw [hd] at h
  rw [Bool.and_eq_true,Bool.or_eq_true] at h
  obtain ⟨h1,h2⟩:=h
  have h1:=ble_iff.1 h1
  have hmin:∀ i,i < n→d≤wt i - 1 - id.getD i 0:=fun i hi=>by rw [← hd];exact fast_le hi
  have grow:∀ t,t≤d→∀ i,i < n→f t i=id.getD i 0 + t:=by
   intro t
   induction t with
   | zero=>intro _ i hi;exact h0 i hi
   | succ t ih=>
    intro ht i hi
    have ih:=ih (by omega)
    have hno:∀ s,s < n→¬ st (f t) s:=fun s hs hst=>by
     unfold st at hst
     rw [ih s hs] at hst
     have:=hmin s hs
     omega
    rw [(hE t (by omega)).b i hi (fun hv=>by
     rcases hv with hv | ⟨s,hs,hv,_⟩
     ·exact hno i hi hv
     ·exact hno s hs hv),ih i hi]
    omega
  have hd0:∀ i,i < n→f d i=(id.map (· + d)).getD i 0:=fun i hi=>by rw [map_add_getD _ _ _ (by omega)];exact grow d (Nat.le_refl _) i hi
  have hEd:=hE d (by omega)
  rcases h2 with h2 | h2
  ·exact won_false hEd hr hd0 h2
  ·refine chk_false hr e (k - (d + 1)) _ (fun t=>f (d + 1 + t)) h2 (by unfold nextL;rw [List.length_map,List.length_range]) (fun i hi=>next_getD hEd hr hd0 hi) (fun t ht=>?_)
   have:=hE (d + 1 + t) (by omega)
   exact this
end
def small (n:Nat) (rk:Nat→Nat) (i:Nat):Nat:=cnt n fun j=>decide (rk j < rk i)
theorem cnt_le {n:Nat} {p q:Nat→Bool} (h:∀ i,i < n→p i=true→q i=true):cnt n p≤cnt n q:=by
 have key:∀ l:List Nat,(∀ i ∈ l,i < n)→(l.filter p).length≤(l.filter q).length:=by
  intro l hl
  induction l with
  | nil=>simp
  | cons x r ih=>
   have ih:=ih fun j hj=>hl j (List.mem_cons_of_mem _ hj)
   have hx:=h x (hl x List.mem_cons_self)
   simp only [List.filter_cons]
   cases hp:p x <;> cases hq:q x <;> simp [hp,hq] at hx ⊢ <;> omega
 exact key (List.range n) fun i hi=>List.mem_range.1 hi
theorem cnt_lt {n:Nat} {p q:Nat→Bool} (h:∀ i,i < n→p i=true→q i=true) {k:Nat} (hk:k < n) (h1:p k=false) (h2:q k=true):cnt n p < cnt n q:=by
 have key:∀ l:List Nat,(∀ i ∈ l,i < n)→k ∈ l→(l.filter p).length < (l.filter q).length:=by
  intro l hl
  induction l with
  | nil=>intro hk;cases hk
  | cons x r ih=>
   intro hkm
   have ih:=ih (fun j hj=>hl j (List.mem_cons_of_mem _ hj))
   have hx:=h x (hl x List.mem_cons_self)
   have hle:(r.filter p).length≤(r.filter q).length:=by
    have:∀ l:List Nat,(∀ i ∈ l,i < n)→(l.filter p).length≤(l.filter q).length:=by
     intro l hl
     induction l with
     | nil=>simp
     | cons x r ih=>
      have ih:=ih fun j hj=>hl j (List.mem_cons_of_mem _ hj)
      have hx:=h x (hl x List.mem_cons_self)
      simp only [List.filter_cons]
      cases hp:p x <;> cases hq:q x <;> simp [hp,hq] at hx ⊢ <;> omega
    exact this r fun j hj=>hl j (List.mem_cons_of_mem _ hj)
   simp only [List.filter_cons]
   rcases List.mem_cons.1 hkm with rfl | hkm
   ·rw [h1,h2];simp;omega
   ·have ih:=ih hkm
    cases hp:p x <;> cases hq:q x <;> simp [hp,hq] at hx ⊢ <;> omega
 exact key (List.range n) (fun i hi=>List.mem_range.1 hi) (List.mem_range.2 hk)
theorem cnt_all_le (n:Nat) (p:Nat→Bool):cnt n p≤n:=by
 unfold cnt
 have:=List.length_filter_le p (List.range n)
 rwa [List.length_range] at this
theorem small_lt {n:Nat} {rk:Nat→Nat} {i:Nat} (hi:i < n):small n rk i < n:=by
 have h1:=cnt_lt (n:=n) (p:=fun j=>decide (rk j < rk i)) (q:=fun _=>true) (fun _ _ _=>rfl) hi (by simp) rfl
 exact Nat.lt_of_lt_of_le h1 (cnt_all_le _ _)
theorem small_le {n:Nat} {rk:Nat→Nat} {i j:Nat} (hj:j < n):small n rk i≤small n rk j ↔ rk i≤rk j:=by
 constructor
 ·intro h
  apply Classical.byContradiction
  intro hc
  have:=cnt_lt (n:=n) (p:=fun k=>decide (rk k < rk j)) (q:=fun k=>decide (rk k < rk i)) (fun k _ hp=>by simp at hp ⊢;omega) hj (by simp) (by simp;omega)
  unfold small at h
  omega
 ·intro h
  exact cnt_le fun k _ hp=>by simp at hp ⊢;omega
def ranks (n:Nat) (rk:Nat→Nat):List Nat:=(List.range n).map (small n rk)
theorem ranks_same (n:Nat) (rk:Nat→Nat):Same n rk (ranks n rk):=fun i j hi hj=>by
 unfold ranks
 rw [range_getD n _ hi,range_getD n _ hj]
 exact small_le hj
theorem mem_vecs:∀ (k m:Nat) (l:List Nat),l.length=k→(∀ x ∈ l,x < m)→l ∈ vecs k m
 | 0,_,l,h,_=>by
  have:l=[]:=List.length_eq_zero_iff.1 h
  rw [this];exact List.mem_singleton.2 rfl
 | k + 1,m,l,h,hx=>by
  cases l with
  | nil=>cases h
  | cons x r=>
   unfold vecs
   rw [List.mem_flatMap]
   exact ⟨r,mem_vecs k m r (by simpa using h) fun y hy=>hx y (List.mem_cons_of_mem _ hy),List.mem_map.2 ⟨x,List.mem_range.2 (hx x List.mem_cons_self),rfl⟩⟩
theorem ranks_mem (n:Nat) (rk:Nat→Nat):ranks n rk ∈ vecs n n:=by
 refine mem_vecs n n _ (by unfold ranks;rw [List.length_map,List.length_range]) fun x hx=>?_
 unfold ranks at hx
 obtain ⟨i,hi,rfl⟩:=List.mem_map.1 hx
 exact small_lt (List.mem_range.1 hi)
theorem from_zero {n:Nat} (h2:2≤n) (h5:n≤5) {rk:Nat→Nat} {f:Nat→Nat→Nat} (h0:∀ i,i < n→f 0 i=0) (hE:∀ t,t < 16→El n rk (f t) (f (t + 1))):False:=by
 have hm:=ranks_mem n rk
 have hs:=ranks_same n rk
 have fin:∀ id:List Nat,id.length=n→(∀ i,i < n→id.getD i 0=0)→chk n (ranks n rk) 6 16 id=true→False:=fun id hl hz hc=>
  chk_false hs 6 16 id f hc hl (fun i hi=>by rw [h0 i hi,hz i hi]) hE
 obtain rfl | rfl | rfl | rfl:n=2∨n=3∨n=4∨n=5:=by omega
 ·exact fin [0,0] rfl (fun i hi=>by rcases i with _ | _ | i <;> first | rfl | omega) (List.all_eq_true.1 z2 _ hm)
 ·exact fin [0,0,0] rfl (fun i hi=>by rcases i with _ | _ | _ | i <;> first | rfl | omega) (List.all_eq_true.1 z3 _ hm)
 ·exact fin [0,0,0,0] rfl (fun i hi=>by rcases i with _ | _ | _ | _ | i <;> first | rfl | omega) (List.all_eq_true.1 z4 _ hm)
 ·refine fin [0,0,0,0,0] rfl (fun i hi=>by rcases i with _ | _ | _ | _ | _ | i <;> first | rfl | omega) ?_
  have e:ranks 5 rk=[small 5 rk 0,small 5 rk 1,small 5 rk 2,small 5 rk 3] ++ [small 5 rk 4]:=rfl
  have hv:[small 5 rk 0,small 5 rk 1,small 5 rk 2,small 5 rk 3] ∈ vecs 4 5:=mem_vecs 4 5 _ rfl fun x hx=>by
   simp only [List.mem_cons,List.not_mem_nil,or_false] at hx
   rcases hx with rfl | rfl | rfl | rfl <;> exact small_lt (by decide)
  have h4:small 5 rk 4 < 5:=small_lt (by decide)
  rw [e]
  obtain ⟨x,hx⟩:∃ x,small 5 rk 4=x:=⟨_,rfl⟩
  rw [hx] at h4 ⊢
  obtain rfl | rfl | rfl | rfl | rfl:x=0∨x=1∨x=2∨x=3∨x=4:=by omega
  ·exact List.all_eq_true.1 z50 _ hv
  ·exact List.all_eq_true.1 z51 _ hv
  ·exact List.all_eq_true.1 z52 _ hv
  ·exact List.all_eq_true.1 z53 _ hv
  ·exact List.all_eq_true.1 z54 _ hv
theorem from_four {rk:Nat→Nat} {f:Nat→Nat→Nat} (hr:∀ i,i < 4→rk i < rk 4) (h0:∀ i,i < 4→f 0 i=0) (h4:f 0 4 < 22) (hE:∀ t,t < 16→El 5 rk (f t) (f (t + 1))):False:=by
 have e4:small 5 rk 4=4:=by
  have h1:∀ i,i < 4→small 5 rk i < small 5 rk 4:=fun i hi=>by
   have:=(small_le (n:=5) (rk:=rk) (i:=4) (j:=i) (by omega))
   have:=hr i hi
   omega
  have e:small 5 rk 4=((List.range 5).filter fun j=>decide (rk j < rk 4)).length:=rfl
  rw [e,show List.range 5=[0,1,2,3,4] from rfl]
  simp [hr 0 (by decide),hr 1 (by decide),hr 2 (by decide),hr 3 (by decide)]
 have hl:∀ i,i < 4→small 5 rk i < 4:=fun i hi=>by
  have:=(small_le (n:=5) (rk:=rk) (i:=4) (j:=i) (by omega))
  have:=hr i hi
  omega
 have e:ranks 5 rk=[small 5 rk 0,small 5 rk 1,small 5 rk 2,small 5 rk 3] ++ [4]:=by
  rw [← e4];rfl
 have hv:[small 5 rk 0,small 5 rk 1,small 5 rk 2,small 5 rk 3] ∈ vecs 4 4:=mem_vecs 4 4 _ rfl fun x hx=>by
  simp only [List.mem_cons,List.not_mem_nil,or_false] at hx
  rcases hx with rfl | rfl | rfl | rfl <;> exact hl _ (by decide)
 obtain ⟨u,hu⟩:∃ u,f 0 4=u:=⟨_,rfl⟩
 rw [hu] at h4
 have hc:chk 5 (ranks 5 rk) 6 16 [0,0,0,0,u]=true:=by
  rw [e]
  rcases Nat.lt_or_ge u 6 with h | h
  ·exact List.all_eq_true.1 (List.all_eq_true.1 y5a _ hv) u (by simp;omega)
  ·rcases Nat.lt_or_ge u 12 with h | h
   ·exact List.all_eq_true.1 (List.all_eq_true.1 y5b _ hv) u (by simp;omega)
   ·rcases Nat.lt_or_ge u 17 with h | h
    ·exact List.all_eq_true.1 (List.all_eq_true.1 y5c _ hv) u (by simp;omega)
    ·exact List.all_eq_true.1 (List.all_eq_true.1 y5d _ hv) u (by simp;omega)
 refine chk_false (ranks_same 5 rk) 6 16 _ f hc rfl (fun i hi=>?_) hE
 rcases i with _ | _ | _ | _ | _ | i
 ·exact h0 0 (by decide)
 ·exact h0 1 (by decide)
 ·exact h0 2 (by decide)
 ·exact h0 3 (by decide)
 ·exact hu
 ·omega
theorem top_of (rk:Nat→Nat):∀ n,0 < n→∃ u,u < n∧∀ i,i < n→rk i≤rk u
 | 1,_=>⟨0,Nat.one_pos,fun i hi=>by rw [show i=0 by omega];exact Nat.le_refl _⟩
 | n + 2,_=>by
  obtain ⟨u,hu,h⟩:=top_of rk (n + 1) (by omega)
  by_cases hc:rk u≤rk (n + 1)
  ·refine ⟨n + 1,by omega,fun i hi=>?_⟩
   by_cases hi2:i < n + 1
   ·exact Nat.le_trans (h i hi2) hc
   ·rw [show i=n + 1 by omega];exact Nat.le_refl _
  ·refine ⟨u,by omega,fun i hi=>?_⟩
   by_cases hi2:i < n + 1
   ·exact h i hi2
   ·rw [show i=n + 1 by omega];omega
theorem first_of {n:Nat} {rk:Nat→Nat} {f:Nat→Nat→Nat} {B:Nat→Prop} (hB:∀ i j,B i→rk i≤rk j→B j) {b:Nat} (hb:b < n) (hbB:B b) (h3:b≤3) (hE:∀ t,t < 19→El n rk (f t) (f (t + 1))) :
  ∃ m,m < 19∧(∃ s,s < n∧B s∧st (f m) s):=by
 apply Classical.byContradiction
 intro hc
 have hn:∀ t,t < 19→∀ s,s < n→B s→¬ st (f t) s:=fun t ht s hs hsB hst=>hc ⟨t,ht,s,hs,hsB,hst⟩
 have grow:∀ t,t≤18→t≤f t b:=by
  intro t
  induction t with
  | zero=>intro _;exact Nat.zero_le _
  | succ t ih=>
   intro ht
   have ih:=ih (by omega)
   rw [(hE t (by omega)).b b hb (fun hv=>by
    rcases hv with hv | ⟨s,hs,hv,hr⟩
    ·exact hn t (by omega) b hb hbB hv
    ·exact hn t (by omega) s hs (hB b s hbB hr) hv)]
   omega
 have h18:=grow 18 (Nat.le_refl _)
 refine hn 18 (by decide) b hb hbB ?_
 unfold st wt
 omega
theorem none35 {n:Nat} (h2:2≤n) (h5:n≤5) {rk:Nat→Nat} {f:Nat→Nat→Nat} (h0:∀ i,i < n→f 0 i < wt i) (hE:∀ t,t < 35→El n rk (f t) (f (t + 1))):False:=by
 have hz:∀ m,m < 19→(∀ i,i < n→f (m + 1) i=0)→False:=fun m hm h=>from_zero h2 h5 (f:=fun t=>f (m + 1 + t)) h fun t ht=>hE (m + 1 + t) (by omega)
 have htop:∀ m,m < 19→∀ s,s < n→st (f m) s→(∀ i,i < n→rk i≤rk s)→False:=fun m hm s hs hst ht=>hz m hm fun i hi=>(hE m (by omega)).a i hi (.inr ⟨s,hs,hst,ht i hi⟩)
 obtain ⟨u,hu,hut⟩:=top_of rk n (by omega)
 by_cases hlow:∃ b,b < n∧b≤3∧∀ i,i < n→rk i≤rk b
 ·obtain ⟨b,hb,hb3,hbt⟩:=hlow
  obtain ⟨m,hm,s,hs,hsB,hst⟩:=first_of (B:=fun j=>∀ i,i < n→rk i≤rk j) (fun i j hi hij k hk=>Nat.le_trans (hi k hk) hij) hb hbt hb3 fun t ht=>hE t (by omega)
  exact htop m hm s hs hst hsB
 ·have hu4:u=4:=by
   have:¬ u≤3:=fun h=>hlow ⟨u,hu,h,hut⟩
   omega
  subst hu4
  obtain rfl:n=5:=by omega
  have hr:∀ i,i < 4→rk i < rk 4:=fun i hi=>by
   apply Classical.byContradiction
   intro hc
   exact hlow ⟨i,by omega,by omega,fun j hj=>Nat.le_trans (hut j hj) (by omega)⟩
  obtain ⟨k,hk,hkt⟩:=top_of rk 4 (by decide)
  obtain ⟨m,hm,s,hs,hsB,hst⟩:=first_of (n:=5) (B:=fun j=>∀ i,i < 4→rk i≤rk j) (fun i j hi hij k hk=>Nat.le_trans (hi k hk) hij) (b:=k) (by omega) hkt (by omega) fun t ht=>hE t (by omega)
  by_cases h4:st (f m) 4
  ·exact htop m hm 4 (by decide) h4 hut
  ·have hEm:=hE m (by omega)
   have hf4:∀ t,t≤m + 1→f t 4 < wt 4:=by
    intro t ht
    cases t with
    | zero=>exact h0 4 (by decide)
    | succ t=>exact (hE t (by omega)).less (by decide)
   exact from_four (f:=fun t=>f (m + 1 + t)) hr (fun i hi=>hEm.a i (by omega) (.inr ⟨s,hs,hst,hsB i hi⟩)) (hf4 (m + 1) (Nat.le_refl _)) fun t ht=>hE (m + 1 + t) (by omega)
end lv
end Go.Proofs.YtmcibggjolckoaaGreatDoor
namespace Go.Proofs.YtmcibggjolckoaaGreatDoor
namespace cl
open rl (Ent e0)
set_option maxRecDepth 100000
def NR (D:Clu):Prop:=∀ i,i < D.n→(nd D i).role ≠ 2
def asNew (C:Clu) (x s:Nat):Prop:=rl.newer (nd C x).log (rl.lastTerm (nd C s).log) (nd C s).log.length=true
structure DV (T:Nat) (C D:Clu):Prop where
 lg:∀ x,x < C.n→(nd D x).log=(nd C x).log
 pl:∀ m ∈ D.way,m.kind=3→m.term + 1 < T
 aq:∀ m ∈ D.way,m.kind=1→m.term=T∧∃ s:Nat,StT T C s∧m.frm=(s:Int)∧m.index=(nd C s).log.length∧m.at_=rl.lastTerm (nd C s).log
 vk:∀ m ∈ D.way,m.kind=2→m.ok=true→m.term=T
 sd:∀ s,StT T C s→(nd D s).term=T∧(nd D s).role=1∧(nd D s).vote=(s:Int)∧(nd D s).idle=0∧(nd D s).votes.getD s false=true∧rf.elected (nd D s)=false
 xs:∀ x,x < C.n→¬ StT T C x→((nd D x).term + 1=T∧(nd D x).idle=(nd C x).idle + 1)∨((nd D x).term=T∧(((nd D x).vote = -1∧(nd D x).idle=(nd C x).idle + 1)∨∃ s:Nat,StT T C s∧(nd D x).vote=(s:Int)∧asNew C x s∧(nd D x).idle=0))
 ak:∀ s x,StT T C s→x < C.n→x ≠ s→(∃ m ∈ D.way,m.kind=1∧m.frm=(s:Int)∧m.dst=(x:Int))∨((nd D x).term=T∧(asNew C x s→(nd D x).vote ≠ -1))
 vt:∀ s x,StT T C s→x < C.n→(nd D x).term=T→(nd D x).vote=(s:Int)→(∃ m ∈ D.way,m.kind=2∧m.ok=true∧m.frm=(x:Int)∧m.dst=(s:Int))∨(nd D s).votes.getD x false=true
theorem getD_set_true (l:List Bool) (i k:Nat) (h:l.getD k false=true):(l.set i true).getD k false=true:=by
 rw [List.getD_eq_getElem?_getD] at h ⊢
 by_cases hik:i=k
 ·subst hik
  by_cases hl:i < l.length
  ·rw [List.getElem?_set_self hl];rfl
  ·rw [List.getElem?_eq_none (by omega)] at h;cases h
 ·rw [List.getElem?_set_ne hik];exact h
theorem ask_grants {x:rf.Node} {m:rf.Msg} (hm:rf.meant x m=true) (hk:m.kind=1) (ht:x.term≤m.term) (hn:rl.newer x.log m.at_ m.index=true):(rf.step x m).1.vote ≠ -1:=by
 obtain ⟨m1,m2,m3,m4,m5,m6⟩:=meant_kind hm
 have ft:(rf.fresh x m).term=m.term:=by rw [fresh_term];omega
 have fl:=(fresh_keep x m).2.2.1
 rw [step_of hm,if_pos hk]
 unfold rf.ask
 by_cases ha:rf.askOk (rf.fresh x m) m=true
 ·rw [if_pos ha]
  show m.frm ≠ -1
  omega
 ·rw [if_neg ha]
  intro hv
  apply ha
  unfold rf.askOk
  rw [fl,hn,hv,ft]
  simp
theorem stander_step {x:rf.Node} {m:rf.Msg} {T:Nat} (ht:x.term=T) (hr:x.role=1) (hv:x.vote=x.id) (hid:0≤x.id) (hmt:m.term≤T) (h3:m.kind=3→m.term < T) (h2:(rf.step x m).1.role ≠ 2) :
  (rf.step x m).1=x∨(m.kind=2∧m.ok=true∧m.term=T∧(rf.step x m).1={ x with votes:=x.votes.set m.frm.toNat true }∧rf.elected { x with votes:=x.votes.set m.frm.toNat true }=false):=by
 cases hm:rf.meant x m with
 | false=>rw [step_not hm];exact .inl rfl
 | true=>
  obtain ⟨m1,m2,m3,m4,m5,m6⟩:=meant_kind hm
  by_cases hlt:m.term < x.term
  ·exact .inl ((stp x m).low hlt).1
  ·have he:m.term=x.term:=by omega
   by_cases k2:m.kind=2∧m.ok=true
   ·obtain ⟨a,b⟩:=vote_not hm k2.1 he k2.2 hr h2
    exact .inr ⟨k2.1,k2.2,he.trans ht,by rw [b],a⟩
   ·left
    rw [step_of hm,fresh_le (by omega)]
    by_cases k1:m.kind=1
    ·rw [if_pos k1]
     unfold rf.ask
     have ha:rf.askOk x m=false:=by
      unfold rf.askOk
      rw [hv]
      have h1:¬ x.id=m.frm:=fun e=>m4 e.symm
      have h4:¬ x.id = -1:=by omega
      simp [h1,h4]
     rw [if_neg (by rw [ha];decide)]
    ·rw [if_neg k1]
     by_cases hk2:m.kind=2
     ·rw [if_pos hk2]
      unfold rf.vote
      rw [if_neg (fun h=>k2 ⟨hk2,h.2.2⟩)]
     ·rw [if_neg hk2]
      by_cases hk3:m.kind=3
      ·have:=h3 hk3;omega
      ·rw [if_neg hk3]
       unfold rf.heard
       rw [if_neg (fun h=>by rw [hr] at h;exact absurd h.1 (by decide))]
section
variable {M T:Nat} {C D:Clu}
theorem dv_del (h:Ok M D) (hb:TB T D) (hN:D.n=C.n) (hR:NR D) (hD:DV T C D) (hnl:NL T (delC D)):DV T C (delC D)∧NR (delC D):=by
 cases hw:D.way with
 | nil=>rw [delC_nil hw];exact ⟨hD,hR⟩
 | cons m r=>
  have hmm:m ∈ D.way:=by rw [hw];exact List.mem_cons_self
  have hrw:∀ a ∈ r,a ∈ D.way:=fun a ha=>by rw [hw];exact List.mem_cons_of_mem _ ha
  obtain ⟨d,hd,hdn,e,e1,e2,hs⟩:=del_parts h hw
  have hsv:=stv (nd D d) m
  have hid:=h.id hdn
  have h200:=h.w200
  have hdC:d < C.n:=by omega
  have hmt:=hb.ms m hmm
  have ht1:=hs.t1
  have ht2:(rf.step (nd D d) m).1.term≤T:=by have:=(tb_del h hb).nd d (by rw [del_n];exact hdn);rw [e1] at this;exact this
  have htd:T≤(nd D d).term + 1:=by
   by_cases hS:StT T C d
   ·have:=(hD.sd d hS).1;omega
   ·rcases hD.xs d hdC hS with c | c
    ·omega
    ·have:=c.1;omega
  have hr2:(rf.step (nd D d) m).1.role ≠ 2:=by
   intro h2
   obtain ⟨r1,r2⟩:=hs.role2 h2
   rcases r2 with r2 | ⟨r2,r3,r4,r5,_⟩
   ·exact hR d hdn r2
   ·have:=hD.vk m hmm r3 r4
    exact hnl d ⟨by rw [del_n];exact hdn,by rw [e1];exact h2,by rw [e1];omega⟩
  have ho1:(rf.step (nd D d) m).2.length≤1:=hs.two (.inl hr2)
  rw [last_id (by rw [hw] at h200;simp only [List.length_cons] at h200;rw [List.length_append];omega)] at e
  have h3:m.kind=3→m.term + 1 < T:=hD.pl m hmm
  have hlog:(rf.step (nd D d) m).1.log=(nd D d).log:=by
   rcases hsv.log with c | c | c
   ·exact c
   ·have:=h3 c.1;omega
   ·exact absurd c.2 hr2
  have hidle:(rf.step (nd D d) m).1.idle=(nd D d).idle∨(m.kind=1∧m.term=(rf.step (nd D d) m).1.term∧(rf.step (nd D d) m).1.vote=m.frm):=by
   rcases hsv.idle with c | c | c | c
   ·exact .inl c
   ·have:=h3 c.1;omega
   ·exact absurd c.2 hr2
   ·exact .inr c
  have hst:StT T C d→(rf.step (nd D d) m).1=nd D d∨(m.kind=2∧m.ok=true∧m.term=T∧(rf.step (nd D d) m).1={ nd D d with votes:=(nd D d).votes.set m.frm.toNat true }∧rf.elected { nd D d with votes:=(nd D d).votes.set m.frm.toNat true }=false):=fun hS=>by
   obtain ⟨s1,s2,s3,s4,s5,s6⟩:=hD.sd d hS
   exact stander_step s1 s2 (by omega) (by omega) hmt (fun hk=>by have:=h3 hk;omega) hr2
  have hvx:¬ StT T C d→(rf.step (nd D d) m).1.term=T→((rf.step (nd D d) m).1.vote = -1∨((nd D d).term=T∧(rf.step (nd D d) m).1.vote=(nd D d).vote))∧(rf.step (nd D d) m).1.idle=(nd D d).idle∨((rf.step (nd D d) m).1.idle=0∧(∃ s:Nat,StT T C s∧(rf.step (nd D d) m).1.vote=(s:Int)∧asNew C d s)∧(((nd D d).term=T∧(rf.step (nd D d) m).1.vote=(nd D d).vote)∨∃ o ∈ (rf.step (nd D d) m).2,o.kind=2∧o.ok=true∧o.dst=m.frm∧o.frm=(d:Int)∧(rf.step (nd D d) m).1.vote=m.frm)):=by
   intro hS hT
   have grant:m.kind=1→m.term=T→rl.newer (nd D d).log m.at_ m.index=true→∃ s:Nat,StT T C s∧m.frm=(s:Int)∧asNew C d s:=fun hk _ hn=>by
    obtain ⟨_,s,a1,a2,a3,a4⟩:=hD.aq m hmm hk
    refine ⟨s,a1,a2,?_⟩
    unfold asNew
    rw [← a3,← a4,← hD.lg d hdC]
    exact hn
   by_cases hx:(nd D d).term=T
   ·rcases hsv.votex (hT.trans hx.symm) with c | ⟨c1,c2,c3,c4,c5,c6,o,o1,o2,o3,o4,o5,o6⟩
    ·rcases hidle with c' | ⟨c1,c2,c3⟩
     ·exact .inl ⟨.inr ⟨hx,c⟩,c'⟩
     ·right
      obtain ⟨_,s,a1,a2,a3,a4⟩:=hD.aq m hmm c1
      have hvs:(nd D d).vote=(s:Int):=by rw [← c,c3,a2]
      rcases hD.xs d hdC hS with x1 | ⟨_,x1 | ⟨s',x1,x2,x3,x4⟩⟩
      ·omega
      ·omega
      ·have hss:s=s':=by omega
       subst hss
       refine ⟨?_,⟨s,a1,c.trans hvs,x3⟩,.inl ⟨hx,c⟩⟩
       rcases hs.idle with c' | c' <;> omega
    ·right
     obtain ⟨s,g1,g2,g3⟩:=grant c1 (c2.trans hT) c6
     exact ⟨c5,⟨s,g1,by rw [c4,g2],g3⟩,.inr ⟨o,o1,o2,o3,o4,by rw [o5,hs.id,hid],c4⟩⟩
   ·cases hm:rf.meant (nd D d) m with
    | false=>rw [step_not hm] at hT;exact absurd hT hx
    | true=>
     have hf:=stv_fresh hm
     obtain ⟨f1,f2,f3,f4,f5,f6,f7,f8⟩:=fresh_keep (nd D d) m
     have hlt:(nd D d).term < m.term:=by
      apply Classical.byContradiction
      intro hc
      have:=hs.t2
      omega
     have fv:(rf.fresh (nd D d) m).vote = -1:=by rw [fresh_lt hlt]
     have ft:(rf.fresh (nd D d) m).term=m.term:=by rw [fresh_term];omega
     have hmT:m.term=T:=by have:=(stp_fresh hm).t1;omega
     rcases hf.votex (by rw [hT,ft,hmT]) with c | ⟨c1,c2,c3,c4,c5,c6,o,o1,o2,o3,o4,o5,o6⟩
     ·left
      refine ⟨.inl (c.trans fv),?_⟩
      rcases hidle with c' | ⟨c1,c2,c3⟩
      ·exact c'
      ·have:=(meant_kind hm).2.1
       omega
     ·right
      rw [f3] at c6
      obtain ⟨s,g1,g2,g3⟩:=grant c1 hmT c6
      exact ⟨c5,⟨s,g1,by rw [c4,g2],g3⟩,.inr ⟨o,o1,o2,o3,o4,by rw [o5,hs.id,hid],c4⟩⟩
  refine ⟨⟨fun x hx=>?_,fun a ha hk=>?_,fun a ha hk=>?_,fun a ha hk hok=>?_,fun s hS=>?_,fun x hx hS=>?_,fun s x hS hx hne=>?_,fun s x hS hx hxt hxv=>?_⟩,fun i hi=>?_⟩
  ·by_cases hxd:x=d
   ·subst hxd;rw [e1,hlog];exact hD.lg x hx
   ·rw [e2 x hxd];exact hD.lg x hx
  ·rw [e] at ha
   rcases List.mem_append.1 ha with ha | ha
   ·exact hD.pl a (hrw a ha) hk
   ·rcases (hs.outs a ha).2.2 with o | o | o
    ·omega
    ·exact absurd o.2.1 hr2
    ·omega
  ·rw [e] at ha
   rcases List.mem_append.1 ha with ha | ha
   ·exact hD.aq a (hrw a ha) hk
   ·rcases (hs.outs a ha).2.2 with o | o | o <;> omega
  ·rw [e] at ha
   rcases List.mem_append.1 ha with ha | ha
   ·exact hD.vk a (hrw a ha) hk hok
   ·obtain ⟨p1,p2,_⟩:=hsv.ok a ha hk hok
    rw [(hs.outs a ha).2.1,← p2]
    exact (hD.aq m hmm p1).1
  ·by_cases hsd:s=d
   ·subst hsd
    obtain ⟨s1,s2,s3,s4,s5,s6⟩:=hD.sd s hS
    rw [e1]
    rcases hst hS with c | ⟨_,_,_,c,ce⟩
    ·rw [c];exact ⟨s1,s2,s3,s4,s5,s6⟩
    ·rw [c];exact ⟨s1,s2,s3,s4,getD_set_true _ _ _ s5,ce⟩
   ·rw [e2 s hsd];exact hD.sd s hS
  ·by_cases hxd:x=d
   ·subst hxd
    have hx0:=hD.xs x hx hS
    have hvx:=hvx hS
    rw [e1]
    by_cases hT:(rf.step (nd D x) m).1.term=T
    ·right
     refine ⟨hT,?_⟩
     rcases hvx hT with ⟨c,ci⟩ | ⟨ci,⟨s,g1,g2,g3⟩,_⟩
     ·rcases c with c | ⟨c1,c2⟩
      ·rcases hx0 with x1 | ⟨x1,x2 | ⟨s,y1,y2,y3,y4⟩⟩
       ·exact .inl ⟨c,ci.trans x1.2⟩
       ·exact .inl ⟨c,ci.trans x2.2⟩
       ·have hne:(nd D x).vote ≠ -1:=by rw [y2];omega
        have hv1:=hsv.vote (hT.trans x1.symm) hne
        rw [c,y2] at hv1
        omega
      ·rcases hx0 with x1 | ⟨x1,x2 | ⟨s,y1,y2,y3,y4⟩⟩
       ·omega
       ·exact .inl ⟨c2.trans x2.1,ci.trans x2.2⟩
       ·exact .inr ⟨s,y1,c2.trans y2,y3,ci.trans y4⟩
     ·exact .inr ⟨s,g1,g2,g3,ci⟩
    ·left
     rcases hx0 with x1 | x1
     ·refine ⟨by omega,?_⟩
      rcases hidle with c | ⟨c1,c2,c3⟩
      ·exact c.trans x1.2
      ·have:=(hD.aq m hmm c1).1
       omega
     ·have h9:T≤(rf.step (nd D x) m).1.term:=by rw [← x1.1];exact ht1
      exact absurd (Nat.le_antisymm ht2 h9) hT
   ·rw [e2 x hxd];exact hD.xs x hx hS
  ·by_cases hxd:x=d
   ·subst hxd
    rw [e1]
    rcases hD.ak s x hS hx hne with ⟨a,a1,a2,a3,a4⟩ | ⟨c1,c2⟩
    ·rw [hw] at a1
     rcases List.mem_cons.1 a1 with rfl | a1
     ·right
      obtain ⟨q1,s',q2,q3,q4,q5⟩:=hD.aq a hmm a2
      have hss:s'=s:=by omega
      subst hss
      have:=h.many hdn
      have h7:=h.n7
      have hsn:=hS.1
      have hm:rf.meant (nd D x) a=true:=by
       unfold rf.meant
       simp only [Bool.and_eq_true,decide_eq_true_eq]
       omega
      have:=stp_term hm
      refine ⟨by omega,fun hn=>ask_grants hm a2 (by omega) ?_⟩
      rw [q4,q5,hD.lg x hx]
      exact hn
     ·exact .inl ⟨a,by rw [e];exact List.mem_append_left _ a1,a2,a3,a4⟩
    ·refine .inr ⟨by omega,fun hn=>?_⟩
     have:=c2 hn
     rw [hsv.vote (by omega) this]
     exact this
   ·rw [e2 x hxd]
    rcases hD.ak s x hS hx hne with ⟨a,a1,a2,a3,a4⟩ | c
    ·rw [hw] at a1
     rcases List.mem_cons.1 a1 with rfl | a1
     ·omega
     ·exact .inl ⟨a,by rw [e];exact List.mem_append_left _ a1,a2,a3,a4⟩
    ·exact .inr c
  ·have grow:∀ k,(nd D s).votes.getD k false=true→(nd (delC D) s).votes.getD k false=true:=fun k hk=>by
    by_cases hsd:s=d
    ·subst hsd
     rw [e1]
     rcases hst hS with c | ⟨_,_,_,c,_⟩
     ·rw [c];exact hk
     ·rw [c];exact getD_set_true _ _ _ hk
    ·rw [e2 s hsd];exact hk
   have old:(∃ a ∈ D.way,a.kind=2∧a.ok=true∧a.frm=(x:Int)∧a.dst=(s:Int))∨(nd D s).votes.getD x false=true→(∃ a ∈ (delC D).way,a.kind=2∧a.ok=true∧a.frm=(x:Int)∧a.dst=(s:Int))∨(nd (delC D) s).votes.getD x false=true:=by
    rintro (⟨a,a1,a2,a3,a4,a5⟩ | c)
    ·rw [hw] at a1
     rcases List.mem_cons.1 a1 with rfl | a1
     ·right
      have hsd:s=d:=by omega
      subst hsd
      have hat:=hD.vk a hmm a2 a3
      obtain ⟨s1,s2,s3,s4,s5,s6⟩:=hD.sd s hS
      by_cases hxs:x=s
      ·subst hxs;exact grow _ s5
      ·have:=h.many hdn
       have h7:=h.n7
       have hm:rf.meant (nd D s) a=true:=by
        unfold rf.meant
        simp only [Bool.and_eq_true,decide_eq_true_eq]
        omega
       obtain ⟨_,c⟩:=vote_not hm a2 (hat.trans s1.symm) a3 s2 hr2
       rw [e1,c,a4,Int.toNat_natCast]
       obtain ⟨g,hI,hu⟩:=h.nd hdn
       have hl7:=hu.len.1
       show ((nd D s).votes.set x true).getD x false=true
       rw [List.getD_eq_getElem?_getD,List.getElem?_set_self (by omega)]
       rfl
     ·exact .inl ⟨a,by rw [e];exact List.mem_append_left _ a1,a2,a3,a4,a5⟩
    ·exact .inr (grow _ c)
   by_cases hxd:x=d
   ·subst hxd
    rw [e1] at hxt hxv
    by_cases hSx:StT T C x
    ·obtain ⟨s1,s2,s3,s4,s5,s6⟩:=hD.sd x hSx
     have hvv:(rf.step (nd D x) m).1.vote=(nd D x).vote:=hsv.vote (hxt.trans s1.symm) (by omega)
     exact old (hD.vt s x hS hx s1 (by omega))
    ·rcases hvx hSx hxt with ⟨c,ci⟩ | ⟨ci,_,c⟩
     ·rcases c with c | ⟨c1,c2⟩
      ·omega
      ·exact old (hD.vt s x hS hx c1 (by omega))
     ·rcases c with ⟨c1,c2⟩ | ⟨o,o1,o2,o3,o4,o5,o6⟩
      ·exact old (hD.vt s x hS hx c1 (by omega))
      ·exact .inl ⟨o,by rw [e];exact List.mem_append_right _ o1,o2,o3,o5,by omega⟩
   ·rw [e2 x hxd] at hxt hxv
    exact old (hD.vt s x hS hx hxt hxv)
  ·rw [del_n] at hi
   by_cases hid2:i=d
   ·subst hid2;rw [e1];exact hr2
   ·rw [e2 i hid2];exact hR i hi
end
end cl
end Go.Proofs.YtmcibggjolckoaaGreatDoor
namespace Go.Proofs.YtmcibggjolckoaaGreatDoor
namespace cl
open rl (Ent e0)
set_option maxRecDepth 100000
theorem stoodV_not {x:rf.Node} {n:Nat} (hm:x.many=(n:Int)) (h2:2≤n):rf.elected (stoodV x)=false:=by
 obtain ⟨y,hy⟩:∃ y,stoodV x=y:=⟨_,rfl⟩
 have hv:y.votes=(List.replicate 7 false).set x.id.toNat true:=by rw [← hy];rfl
 have hmy:y.many=(n:Int):=by rw [← hy];exact hm
 rw [hy]
 unfold rf.elected rf.majority rf.count
 have:=one_vote (rf.size y) x.id.toNat
 rw [hv,hmy]
 simp only [decide_eq_false_iff_not]
 omega
section
variable {M T:Nat} {C D:Clu}
theorem nr_del (h:Ok M D) {m:rf.Msg} {r:List rf.Msg} (hw:D.way=m :: r) (hR:NR (delC D)):ws (delC D).way + 1≤ws D.way∧(NK D.way→NK (delC D).way)∧(delC D).way.length≤D.way.length:=by
 obtain ⟨d,hd,hdn,e,e1,e2,hs⟩:=del_parts h hw
 have h2:(rf.step (nd D d) m).1.role ≠ 2:=by rw [← e1];exact hR d (by rw [del_n];exact hdn)
 have h3:=hs.two (.inl h2)
 refine ⟨?_,fun hk a ha=>?_,?_⟩
 ·rw [e,hw]
  have h1:=ws_last (r ++ (rf.step (nd D d) m).2)
  rw [ws_append] at h1
  rw [ws_cons]
  have h4:ws (rf.step (nd D d) m).2 + 1≤wt m:=by
   rcases ho:(rf.step (nd D d) m).2 with _ | ⟨o,_ | ⟨o2,l⟩⟩
   ·rw [ws_nil];exact (wt_le m).1
   ·have:=(hs.outs o (by rw [ho];exact List.mem_cons_self)).2.2
    rw [ws_cons,ws_nil]
    unfold wt
    rcases this with c | c | c
    ·rw [if_neg (by omega),if_pos (.inl c.2.1)]
     decide
    ·exact absurd c.2.1 h2
    ·rw [if_neg (by omega),if_pos (.inr c.2)]
     decide
   ·rw [ho] at h3;simp at h3
  omega
 ·rw [hw] at hk
  rw [e] at ha
  rcases List.mem_append.1 (mem_last ha) with ha | ha
  ·exact hk a (List.mem_cons_of_mem _ ha)
  ·rcases (hs.outs a ha).2.2 with c | c | c
   ·exact .inr c.1
   ·exact absurd c.2.1 h2
   ·rcases hk m List.mem_cons_self with c' | c' <;> omega
 ·rw [e,hw]
  have:=last_le2 (r ++ (rf.step (nd D d) m).2)
  rw [List.length_append] at this
  simp only [List.length_cons]
  omega
theorem dv_ticks (h:Ok M C) (h2:2≤C.n) (hM:M + C.n < 18446744073709551616) (hb:TB T C) (hn:NoAV C) (ha:All T C) (hl:NL T C):DV (T + 1) C (ticksC C.n C)∧NR (ticksC C.n C):=by
 obtain ⟨k,b,e,_,hb2,hb3,_⟩:=ticks_way h h2 C.n (Nat.le_refl _)
 have h7:=h.n7
 have hr0:∀ i,i < C.n→(nd C i).role ≠ 2:=fun i hi hr=>hl i ⟨hi,hr,ha i hi⟩
 have hstT:∀ i,i < C.n→(StT (T + 1) C i ↔ stands (nd C i)):=fun i hi=>⟨fun hS=>hS.2.1,fun hS=>⟨hi,hS,by rw [ha i hi]⟩⟩
 have hno:∀ i,i < C.n→¬ stands (nd C i)→nd (ticksC C.n C) i={ nd C i with idle:=(nd C i).idle + 1 }:=fun i hi hs=>tickd_idle h h2 hi hs (hr0 i hi)
 refine ⟨⟨fun x hx=>?_,fun m hm hk=>?_,fun m hm hk=>?_,fun m hm hk=>absurd hk (g1_ticks h h2 hn m hm),fun s hS=>?_,fun x hx hS=>?_,fun s x hS hx hne=>?_,fun s x hS hx ht hv=>?_⟩,fun i hi=>?_⟩
 ·by_cases hs:stands (nd C x)
  ·rw [(tickd_stand h h2 hx hs).1];rfl
  ·rw [hno x hx hs]
 ·rw [e] at hm
  rcases List.mem_append.1 hm with hm | hm
  ·have hm:=List.mem_of_mem_drop hm
   have:=hb.ms m hm
   by_cases ht:m.term=T
   ·obtain ⟨i,_,hi⟩:=hb.pt m hm hk ht
    exact absurd hi (hl i)
   ·omega
  ·obtain ⟨i,hi,hm⟩:=hb3 m hm
   rcases (tickd_out h h2 hi m hm).2.2 with o | o
   ·omega
   ·exact absurd o.2 (hr0 i hi)
 ·rw [e] at hm
  rcases List.mem_append.1 hm with hm | hm
  ·exact absurd hk (hn m (List.mem_of_mem_drop hm)).1
  ·obtain ⟨i,hi,hm⟩:=hb3 m hm
   rcases (tickd_out h h2 hi m hm).2.2 with o | o
   ·rw [(tickd_stand h h2 hi o.2).2] at hm
    obtain ⟨a1,a2,a3,a4,a5,_⟩:=asks_mem hm
    obtain ⟨b1,b2,b3,b4,b5,b6,b7⟩:=stoodV_ok h hM hi
    exact ⟨by rw [a2,b3,ha i hi],i,(hstT i hi).2 o.2,by rw [a1,b1],by rw [a4,b7],by rw [a5,b7]⟩
   ·omega
 ·have hs1:=hS.1
  obtain ⟨b1,b2,b3,b4,b5,b6,b7⟩:=stoodV_ok h hM hs1
  rw [(tickd_stand h h2 hs1 hS.2.1).1]
  exact ⟨by rw [b3,ha s hs1],b4,b5,b6,(stoodV_votes h hs1).2 rfl,stoodV_not (h.many hs1) h2⟩
 ·left
  rw [hno x hx (fun hs=>hS ((hstT x hx).2 hs))]
  exact ⟨by show (nd C x).term + 1=_;rw [ha x hx],rfl⟩
 ·left
  have hs1:=hS.1
  obtain ⟨b1,b2,b3,b4,b5,b6,b7⟩:=stoodV_ok h hM hs1
  rw [e]
  refine ⟨rf.stamp (stoodV (nd C s)) { rf.msg0 with kind:=1,dst:=(x:Int),index:=(stoodV (nd C s)).log.length,at_:=rl.lastTerm (stoodV (nd C s)).log },List.mem_append_right _ (hb2 s hs1 _ ?_),rfl,b1,rfl⟩
  rw [(tickd_stand h h2 hs1 hS.2.1).2]
  exact mem_asks (by rw [size_eq b2 h7];exact hx) (by omega)
 ·right
  have hsx:stands (nd C x):=by
   apply Classical.byContradiction
   intro hs
   rw [hno x hx hs] at ht
   have h1:(nd C x).term=T + 1:=ht
   have:=ha x hx
   omega
  obtain ⟨b1,b2,b3,b4,b5,b6,b7⟩:=stoodV_ok h hM hx
  rw [(tickd_stand h h2 hx hsx).1,b5] at hv
  have:x=s:=by omega
  subst this
  rw [(tickd_stand h h2 hx hsx).1]
  exact (stoodV_votes h hx).2 rfl
 ·rw [ticks_n] at hi
  by_cases hs:stands (nd C i)
  ·rw [(tickd_stand h h2 hi hs).1]
   show ¬ (1:Int)=2
   decide
  ·rw [hno i hi hs]
   exact hr0 i hi
structure DG (M T:Nat) (C D:Clu):Prop where
 ok:Ok M D
 tb:TB T D
 vi:VI T (StT T C) D
 dv:DV T C D
 nr:NR D
 n:D.n=C.n
theorem DG.nl (h:DG M T C D):NL T D:=fun i hi=>h.nr i hi.1 hi.2.1
theorem dg_del (hM:M < 18446744073709551616) (h:DG M T C D) (hnl:NL T (delC D)):DG M T C (delC D):=by
 obtain ⟨a,b⟩:=dv_del h.ok h.tb h.n h.nr h.dv hnl
 exact ⟨ok_del h.ok hM,tb_del h.ok h.tb,vi_del h.ok h.tb h.vi,a,b,by rw [del_n];exact h.n⟩
theorem dg_gen1 (hM:M < 18446744073709551616):∀ k (D:Clu),DG M T C D→k≤D.way.length→(∀ m ∈ D.way.take k,m.kind ≠ 2)→DG M T C (delsC k D)∧ws (delsC k D).way + k≤ws D.way∧(NK D.way→NK (delsC k D).way)
 | 0,D,h,_,_=>⟨h,Nat.le_refl _,id⟩
 | k + 1,D,h,hle,hnv=>by
  cases hw:D.way with
  | nil=>rw [hw] at hle;simp at hle
  | cons m r=>
   have h200:=h.ok.w200
   rw [hw] at hle hnv h200
   rw [List.take_succ_cons] at hnv
   simp only [List.length_cons] at hle h200
   have hk2:m.kind ≠ 2:=hnv m List.mem_cons_self
   have hnl:NL T (delC D):=fun i hi=>by
    rcases lead_new h.ok hw hi with c | c
    ·exact h.nl i c
    ·exact hk2 c.2.1
   have hg:=dg_del hM h hnl
   obtain ⟨w1,w2,_⟩:=nr_del h.ok hw hg.nr
   obtain ⟨d,hd,hdn,e,e1,e2,hs⟩:=del_parts h.ok hw
   have ho:=hs.one hk2
   rw [last_id (by rw [List.length_append];omega)] at e
   have et:(delC D).way.take k=r.take k:=by rw [e,List.take_append_of_le_length (by omega)]
   obtain ⟨i1,i2,i3⟩:=dg_gen1 hM k (delC D) hg (by rw [e,List.length_append];omega) (fun a ha=>by rw [et] at ha;exact hnv a (List.mem_cons_of_mem _ ha))
   have eq:delsC (k + 1) D=delsC k (delC D):=by rw [Nat.add_comm];exact dels_add D 1 k
   rw [eq,← hw]
   exact ⟨i1,by omega,fun hk=>i3 (w2 hk)⟩
theorem dg_dels (hM:M < 18446744073709551616) (h:DG M T C D):∀ j,(∀ i,i≤j→NL T (delsC i D))→DG M T C (delsC j D)
 | 0,_=>h
 | j + 1,hn=>dg_del hM (dg_dels hM h j fun i hi=>hn i (by omega)) (hn (j + 1) (Nat.le_refl _))
theorem ws_ticks (h:Ok M C) (h2:2≤C.n):ws (ticksC C.n C).way≤ws C.way + 14 * C.n:=by
 obtain ⟨k,b,e,hl,_,_,_⟩:=ticks_way h h2 C.n (Nat.le_refl _)
 rw [e,ws_append]
 have:=ws_drop C.way k
 have:=(ws_le b).2
 omega
theorem d_round (h:Ok M C) (h2:2≤C.n) (h5:C.n≤5) (hM:M + C.n < 18446744073709551616) (hb:TB T C) (hn:NoAV C) (ha:All T C) (hl:NL T C) (hw:ws C.way≤100) {y:Nat} (hy:y < C.n) (hys:stands (nd C y)) :
  (TB (T + 1) (roundC C)∧All (T + 1) (roundC C)∧NL (T + 1) (roundC C)∧(roundC C).way=[]∧DV (T + 1) C (roundC C)) ∨
  (∃ l D0 j0,W2 (T + 1) l D0∧Ok (M + C.n) D0∧D0.n=C.n∧roundC C=delsC j0 D0∧S (T + 1) l (roundC C)∧(nd (roundC C) l).idle=0∧(C.way=[]→430≤j0∧∃ r,D0.way=last (r ++ rf.puts (nd D0 l))∧ws r≤70∧NK r)):=by
 have hb':=hb.up (T':=T + 1) (Nat.lt_succ_self _)
 have hl':=hb.nl (T':=T + 1) (Nat.lt_succ_self _)
 have hs':∀ i,i < C.n→stands (nd C i)→(nd C i).term + 1≤T + 1:=fun i hi _=>by rw [ha i hi];exact Nat.le_refl _
 have hyT:StT (T + 1) C y:=⟨hy,hys,by rw [ha y hy]⟩
 obtain ⟨k1,k2,k3,k4,k5⟩:=sync_gen1 h h2 hM hb' hn hl' hyT hs'
 obtain ⟨dv1,nr1⟩:=dv_ticks h h2 hM hb hn ha hl
 have ho1:=ok_ticks h C.n (Nat.le_refl _) hM
 have hwt:=ws_ticks h h2
 have g0:DG (M + C.n) (T + 1) C (ticksC C.n C):=⟨ho1,tb_ticks h h2 hM hb' hs',vi_ticks h h2 hM hn,dv1,nr1,ticks_n _ _⟩
 obtain ⟨g1,w1,nk1⟩:=dg_gen1 hM (ticksC C.n C).way.length (ticksC C.n C) g0 (Nat.le_refl _) (by rw [List.take_length];exact g1_ticks h h2 hn)
 have hnk:C.way=[]→NK (ticksC C.n C).way:=fun hc a haw=>by
  obtain ⟨k,b,e,_,_,hb3,_⟩:=ticks_way h h2 C.n (Nat.le_refl _)
  rw [e,hc,List.drop_nil,List.nil_append] at haw
  obtain ⟨i,hi,hm⟩:=hb3 a haw
  rcases (tickd_out h h2 hi a hm).2.2 with o | o
  ·exact .inl o.1
  ·exact absurd ⟨hi,o.2,ha i hi⟩ (hl i)
 obtain ⟨q,hqq⟩:∃ q,(ticksC C.n C).way.length=q:=⟨_,rfl⟩
 have hq:=ho1.w200
 rw [hqq] at k1 k2 k3 k4 k5 hq g1 w1 nk1
 have eq:roundC C=delsC (500 - q) (delsC q (ticksC C.n C)):=by
  rw [← dels_add,show q + (500 - q)=500 by omega];rfl
 rw [eq]
 obtain ⟨D,hD⟩:∃ D,delsC q (ticksC C.n C)=D:=⟨_,rfl⟩
 rw [hD] at k1 k2 k3 k4 k5 g1 w1 nk1 ⊢
 have hn5:14 * C.n≤70:=by omega
 have noW:∀ {l j0:Nat},W2 (T + 1) l (delsC j0 D)→∀ j,j0≤j→Leads (T + 1) (delsC j D) l:=fun {l j0} hW j hj=>by
  have:=(w2_dels (ok_dels k1 hM j0) hM hW (j - j0)).w.ld
  rw [← dels_add,show j0 + (j - j0)=j by omega] at this
  exact this
 rcases b_dels k1 hM k2 k3 k4 k5 (500 - q) with ⟨c1,_,_,c4⟩ | ⟨l,j0,c1,c2,c3,c4,r,c5,c6,c7⟩
 ·left
  have hall:∀ i,i≤500 - q→NL (T + 1) (delsC i D):=fun i hi=>by
   rcases b_dels k1 hM k2 k3 k4 k5 i with ⟨d1,_⟩ | ⟨l,j0,d1,_,d3,_⟩
   ·exact d1
   ·exact absurd (noW d3 (500 - q) (by omega)) (c1 l)
  refine ⟨tb_dels k1 hM k2 _,all_dels k1 hM k2 k3 _,c1,?_,(dg_dels hM g1 _ hall).dv⟩
  rcases c4 with c4 | c4
  ·omega
  ·exact c4
 ·right
  have ho0:=ok_dels k1 hM j0
  have e2:delsC (500 - q) D=delsC (500 - q - j0) (delsC j0 D):=by rw [← dels_add,show j0 + (500 - q - j0)=500 - q by omega]
  have hE0:(delsC j0 D).n=C.n:=by rw [dels_n];exact g1.n
  obtain ⟨E,hE⟩:∃ E,delsC j0 D=E:=⟨_,rfl⟩
  rw [hE] at e2 c3 c4 c5 ho0 hE0
  have e3:delsC (500 - q - j0) E=delsC (500 - q - j0 - E.way.length) (delsC E.way.length E):=by
   rw [← dels_add,show E.way.length + (500 - q - j0 - E.way.length)=500 - q - j0 by omega]
  obtain ⟨t1,t2⟩:=w2_tail ho0 hM c3
  obtain ⟨t3,t4⟩:=s_dels (ok_dels ho0 hM _) hM t1 (by rw [t2];exact Int.le_refl _) (500 - q - j0 - E.way.length)
  refine ⟨l,E,500 - q - j0,c3,ho0,hE0,e2,by rw [e2,e3];exact t3,by rw [e2,e3,t4];exact t2,fun hc=>?_⟩
  have hz:ws C.way=0:=by rw [hc];rfl
  exact ⟨by omega,r,c5,by omega,c7 (nk1 (hnk hc))⟩
theorem d_quiet (h:Ok M C) (h2:2≤C.n) (hM:M + C.n < 18446744073709551616) (hb:TB T C) (hn:NoAV C) (ha:All T C) (hl:NL T C) (hw:ws C.way≤100) (hq:∀ i,i < C.n→¬ stands (nd C i)) :
  TB T (roundC C)∧All T (roundC C)∧NL T (roundC C)∧(roundC C).way=[]∧∀ i,i < C.n→nd (roundC C) i={ nd C i with idle:=(nd C i).idle + 1 }:=by
 obtain ⟨q1,q2,q3⟩:=quiet_nl h h2 hM hb hn hl fun i hi hs=>absurd hs (hq i hi)
 have ho1:=ok_ticks h C.n (Nat.le_refl _) hM
 have hb1:=tb_ticks h h2 hM hb fun i hi hs=>absurd hs (hq i hi)
 have hl1:=nl_ticks h h2 hl
 have ha1:All T (ticksC C.n C):=fun i hi=>by
  rw [ticks_n] at hi
  rw [tickd_term h h2 hM hi,if_neg (hq i hi)]
  exact ha i hi
 obtain ⟨k,b,e,_,_,hb3,_⟩:=ticks_way h h2 C.n (Nat.le_refl _)
 have hbn:b=[]:=by
  rcases b with _ | ⟨m,b⟩
  ·rfl
  ·exfalso
   obtain ⟨i,hi,hm⟩:=hb3 m List.mem_cons_self
   rcases (tickd_out h h2 hi m hm).2.2 with o | o
   ·exact hq i hi o.2
   ·exact hl i ⟨hi,o.2,ha i hi⟩
 subst hbn
 rw [List.append_nil] at e
 have hw1:ws (ticksC C.n C).way≤100:=by rw [e];exact Nat.le_trans (ws_drop _ _) hw
 have hv1:VI T (fun _=>False) (ticksC C.n C):=by
  refine ⟨fun m hm hk=>?_,fun m hm hk=>absurd hk (g1_ticks h h2 hn m hm),fun s hs=>hs.elim⟩
  rw [e] at hm
  exact absurd hk (hn m (List.mem_of_mem_drop hm)).1
 refine ⟨q1,fun i hi=>?_,q2,?_,fun i hi=>q3 i hi (ha i hi)⟩
 ·rw [round_n] at hi
  rw [q3 i hi (ha i hi)]
  exact ha i hi
 ·rcases b_dels ho1 hM hb1 ha1 hl1 hv1 500 with ⟨_,_,_,c4⟩ | ⟨l,j0,d1,_,d3,_⟩
  ·rcases c4 with c4 | c4
   ·omega
   ·exact c4
  ·exfalso
   have:=(w2_dels (ok_dels ho1 hM j0) hM d3 (500 - j0)).w.ld
   rw [← dels_add,show j0 + (500 - j0)=500 by omega] at this
   exact q2 l this
end
end cl
end Go.Proofs.YtmcibggjolckoaaGreatDoor
