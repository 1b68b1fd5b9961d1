/- Random marking: what it can hold, with probabilities in parts of 720: the plain laws. Conditions: those that each names. -/
import Derived.Test.YtjblpcgkffhgfaaGreatGRQ
set_option linter.all false
set_option linter.unusedSimpArgs false
set_option linter.unusedVariables false
namespace Go.Proofs.YtjblpcgkffhgfaaGreat

/-! ### the order of lists -/
def lexB:List Int→List Int→Bool
  | [],[]=>false
  | [],_::_=>true
  | _::_,[]=>false
  | a::x,b::y=>if a=b then lexB x y else decide (a<b)
theorem lexB_irr:∀ x,lexB x x=false
  | []=>rfl
  | a::x=>by simp [lexB,lexB_irr x]
theorem lexB_trans:∀ {x y z:List Int},lexB x y=true→lexB y z=true→lexB x z=true
  | [],[],_,h,_=>by simp [lexB] at h
  | [],_::_,[],_,h=>by simp [lexB] at h
  | [],_::_,_::_,_,_=>rfl
  | _::_,[],_,h,_=>by simp [lexB] at h
  | _::_,_::_,[],_,h=>by simp [lexB] at h
  | a::x,b::y,c::z,h1,h2=>by
    unfold lexB at h1 h2 ⊢
    by_cases e1:a=b
    · rw [if_pos e1] at h1
      by_cases e2:b=c
      · rw [if_pos e2] at h2
        rw [if_pos (e1.trans e2)]
        exact lexB_trans h1 h2
      · rw [if_neg e2] at h2
        have:=of_decide_eq_true h2
        rw [if_neg (by omega)]
        exact decide_eq_true (by omega)
    · rw [if_neg e1] at h1
      have h3:=of_decide_eq_true h1
      by_cases e2:b=c
      · rw [if_neg (by omega)]
        exact decide_eq_true (by omega)
      · rw [if_neg e2] at h2
        have:=of_decide_eq_true h2
        rw [if_neg (by omega)]
        exact decide_eq_true (by omega)
theorem lexB_tot:∀ {x y:List Int},lexB x y=false→x≠y→lexB y x=true
  | [],[],_,h=>absurd rfl h
  | [],_::_,h,_=>by simp [lexB] at h
  | _::_,[],_,_=>rfl
  | a::x,b::y,h1,h2=>by
    unfold lexB at h1 ⊢
    by_cases e1:a=b
    · rw [if_pos e1] at h1
      rw [if_pos e1.symm]
      exact lexB_tot h1 fun e=>h2 (by rw [e1,e])
    · rw [if_neg e1] at h1
      have:=of_decide_eq_false h1
      rw [if_neg (fun e=>e1 e.symm)]
      exact decide_eq_true (by omega)
/-- the first place at which two lists differ tells -/
theorem lexB_at:∀ (x y:List Int) (k:Nat),k≤x.length→k≤y.length→(∀ j,j<k→x.getD j 0=y.getD j 0)→lexB x y=lexB (x.drop k) (y.drop k)
  | _,_,0,_,_,_=>rfl
  | [],_,k+1,h,_,_=>by simp at h
  | _::_,[],k+1,_,h,_=>by simp at h
  | a::x,b::y,k+1,h1,h2,h=>by
    have e:a=b:=h 0 (by omega)
    rw [show lexB (a::x) (b::y)=lexB x y from if_pos e]
    exact lexB_at x y k (by simpa using h1) (by simpa using h2) fun j hj=>h (j+1) (by omega)
def cmpL (x y:List Int):Int:=if lexB x y=true then -1 else if x=y then 0 else 1

/-! ### adding a probability -/
abbrev HL:=List (List Int×Nat)
def gainH:HL→List Int→Nat→HL
  | [],x,n=>[(x,n)]
  | p::h,x,n=>if lexB p.1 x=true then p::gainH h x n else if p.1=x then (p.1,p.2+n)::h else (x,n)::p::h
def atH:HL→List Int→Nat
  | [],_=>0
  | p::h,x=>if lexB p.1 x=true then atH h x+1 else 0
def isAt (h:HL) (x:List Int):Prop:=atH h x<h.length∧(h.getD (atH h x) ([],0)).1=x
instance (h:HL) (x:List Int):Decidable (isAt h x):=by unfold isAt;exact inferInstance
theorem atH_le:∀ (h:HL) (x:List Int),atH h x≤h.length
  | [],_=>Nat.le_refl _
  | p::h,x=>by
    unfold atH
    split
    · have:=atH_le h x;simp;omega
    · exact Nat.zero_le _
theorem atH_lt:∀ {h:HL} {x:List Int} {i:Nat},i<atH h x→lexB (h.getD i ([],0)).1 x=true
  | [],_,_,h=>by simp [atH] at h
  | p::h,x,i,hi=>by
    unfold atH at hi
    split at hi
    · match i with
      | 0=>simpa
      | i+1=>simpa using atH_lt (h:=h) (x:=x) (i:=i) (by omega)
    · omega
theorem atH_ge:∀ {h:HL} {x:List Int},atH h x<h.length→lexB (h.getD (atH h x) ([],0)).1 x=false
  | [],_,h=>by simp at h
  | p::h,x,hi=>by
    unfold atH at hi ⊢
    split
    · rename_i h1
      rw [if_pos h1] at hi
      simpa using atH_ge (h:=h) (by simpa using hi)
    · rename_i h1
      simpa using h1
theorem atH_of {h:HL} {x:List Int} {k:Nat} (hk:k≤h.length) (h1:∀ i,i<k→lexB (h.getD i ([],0)).1 x=true) (h2:k<h.length→lexB (h.getD k ([],0)).1 x=false):atH h x=k:=by
  rcases Nat.lt_trichotomy (atH h x) k with h3 | h3 | h3
  · have h4:=atH_ge (h:=h) (x:=x) (by omega)
    rw [h1 _ h3] at h4
    cases h4
  · exact h3
  · have h4:=atH_lt h3
    rw [h2 (by have:=atH_le h x;omega)] at h4
    cases h4
theorem gainH_in:∀ {h:HL} {x:List Int} {n:Nat},isAt h x→gainH h x n=h.take (atH h x)++(x,(h.getD (atH h x) ([],0)).2+n)::h.drop (atH h x+1)
  | [],x,n,hx=>by simp [isAt] at hx
  | p::h,x,n,hx=>by
    unfold isAt at hx
    unfold gainH atH at *
    split
    · rename_i h1
      rw [if_pos h1] at hx
      rw [gainH_in (h:=h) (x:=x) (n:=n) ⟨by simpa using hx.1,by simpa using hx.2⟩]
      simp
    · rename_i h1
      rw [if_neg h1] at hx
      have e:p.1=x:=by simpa using hx.2
      rw [if_pos e]
      simp [e]
theorem gainH_new:∀ {h:HL} {x:List Int} {n:Nat},¬ isAt h x→gainH h x n=h.take (atH h x)++(x,n)::h.drop (atH h x)
  | [],x,n,hx=>rfl
  | p::h,x,n,hx=>by
    unfold isAt at hx
    unfold gainH atH at *
    split
    · rename_i h1
      rw [if_pos h1] at hx
      rw [gainH_new (h:=h) (x:=x) (n:=n) fun h2=>hx ⟨by simpa using h2.1,by simpa using h2.2⟩]
      simp
    · rename_i h1
      rw [if_neg h1] at hx
      have e:p.1≠x:=fun e=>hx ⟨by simp,by simpa using e⟩
      rw [if_neg e]
      simp
def sumH (h:HL):Nat:=(h.map (·.2)).sum
theorem sumH_cons (p:List Int×Nat) (h:HL):sumH (p::h)=p.2+sumH h:=by simp [sumH]
theorem sumH_app (h k:HL):sumH (h++k)=sumH h+sumH k:=by simp [sumH]
theorem sumH_gain:∀ (h:HL) (x:List Int) (n:Nat),sumH (gainH h x n)=sumH h+n
  | [],x,n=>by simp [gainH,sumH]
  | p::h,x,n=>by
    unfold gainH
    split
    · rw [sumH_cons,sumH_gain,sumH_cons];omega
    · split
      · rw [sumH_cons,sumH_cons];simp only;omega
      · rw [sumH_cons];simp only;omega
theorem gainH_mem:∀ {h:HL} {x:List Int} {n:Nat} {p:List Int×Nat},p∈gainH h x n→p∈h∨(p.1=x∧(p.2=n∨∃ q∈h,q.1=x∧p.2=q.2+n))
  | [],x,n,p,hp=>by
    simp [gainH] at hp
    subst hp
    exact .inr ⟨rfl,.inl rfl⟩
  | q::h,x,n,p,hp=>by
    unfold gainH at hp
    split at hp
    · rw [List.mem_cons] at hp
      rcases hp with rfl | hp
      · exact .inl (by simp)
      · rcases gainH_mem hp with h1 | ⟨h1,h2 | ⟨r,h2,h3⟩⟩
        · exact .inl (by simp [h1])
        · exact .inr ⟨h1,.inl h2⟩
        · exact .inr ⟨h1,.inr ⟨r,by simp [h2],h3⟩⟩
    · split at hp
      · rename_i e
        rw [List.mem_cons] at hp
        rcases hp with rfl | hp
        · exact .inr ⟨e,.inr ⟨q,by simp,e,rfl⟩⟩
        · exact .inl (by simp [hp])
      · rw [List.mem_cons,List.mem_cons] at hp
        rcases hp with rfl | rfl | hp
        · exact .inr ⟨rfl,.inl rfl⟩
        · exact .inl (by simp)
        · exact .inl (by simp [hp])
/-- lists in order, each with a probability -/
structure OkH (Q:List Int×Nat→Prop) (h:HL):Prop where
  ord:h.Pairwise fun p q=>lexB p.1 q.1=true
  all:∀ p∈h,Q p
theorem gainH_ord:∀ {h:HL} {x:List Int} {n:Nat},h.Pairwise (fun p q=>lexB p.1 q.1=true)→(gainH h x n).Pairwise fun p q=>lexB p.1 q.1=true
  | [],x,n,_=>by simp [gainH]
  | p::h,x,n,hp=>by
    rw [List.pairwise_cons] at hp
    unfold gainH
    split
    · rename_i h1
      rw [List.pairwise_cons]
      refine ⟨fun q hq => ?_,gainH_ord hp.2⟩
      rcases gainH_mem hq with h2 | ⟨h2,_⟩
      · exact hp.1 q h2
      · rw [h2];exact h1
    · rename_i h1
      split
      · rw [List.pairwise_cons]
        exact hp
      · rename_i h2
        have h3:lexB x p.1=true:=lexB_tot (by simpa using h1) h2
        rw [List.pairwise_cons,List.pairwise_cons]
        refine ⟨fun q hq => ?_,hp⟩
        rw [List.mem_cons] at hq
        rcases hq with rfl | hq
        · exact h3
        · exact lexB_trans h3 (hp.1 q hq)
theorem OkH.gain {Q:List Int×Nat→Prop} {h:HL} (hh:OkH Q h) {x:List Int} {n:Nat} (hx:Q (x,n)) (hq:∀ m,Q (x,m)→Q (x,m+n)):OkH Q (gainH h x n):=by
  refine ⟨gainH_ord hh.ord,fun p hp => ?_⟩
  rcases gainH_mem hp with h1 | ⟨h1,h2 | ⟨q,h2,h3,h4⟩⟩
  · exact hh.all p h1
  · obtain ⟨a,b⟩:=p
    simp only at h1 h2
    subst h1 h2
    exact hx
  · obtain ⟨a,b⟩:=p
    obtain ⟨c,d⟩:=q
    simp only at h1 h3 h4
    subst h1 h3 h4
    exact hq _ (hh.all _ h2)
theorem OkH.nil (Q:List Int×Nat→Prop):OkH Q []:=⟨List.Pairwise.nil,fun _ h=>by simp at h⟩
def gainsH (acc:HL) (ps:HL):HL:=ps.foldl (fun a p=>gainH a p.1 p.2) acc
theorem gainsH_app (acc ps qs:HL):gainsH acc (ps++qs)=gainsH (gainsH acc ps) qs:=List.foldl_append
theorem sumH_gains:∀ (ps acc:HL),sumH (gainsH acc ps)=sumH acc+sumH ps
  | [],acc=>by simp [gainsH,sumH]
  | p::ps,acc=>by
    show sumH (gainsH (gainH acc p.1 p.2) ps)=_
    rw [sumH_gains ps,sumH_gain,sumH_cons]
    omega
theorem OkH.gains {Q:List Int×Nat→Prop} (hq:∀ x m n,Q (x,m)→Q (x,n)→Q (x,m+n)):∀ {ps acc:HL},OkH Q acc→(∀ p∈ps,Q p)→OkH Q (gainsH acc ps)
  | [],_,h,_=>h
  | p::ps,acc,h,hp=>by
    show OkH Q (gainsH (gainH acc p.1 p.2) ps)
    exact OkH.gains (ps:=ps) (acc:=gainH acc p.1 p.2) hq (h.gain (hp p (by simp)) fun m hm=>hq _ _ _ hm (hp p (by simp))) fun q hq'=>hp q (by simp [hq'])
theorem len_sum:∀ {h:HL},(∀ p∈h,0<p.2)→h.length≤sumH h
  | [],_=>Nat.zero_le _
  | p::h,hp=>by
    have h1:=len_sum (h:=h) fun q hq=>hp q (by simp [hq])
    have h2:=hp p (by simp)
    rw [sumH_cons,List.length_cons]
    omega
theorem mem_sum:∀ {h:HL} {p:List Int×Nat},p∈h→p.2≤sumH h
  | [],_,h=>by simp at h
  | q::h,p,hp=>by
    rw [sumH_cons]
    rw [List.mem_cons] at hp
    rcases hp with rfl | hp
    · omega
    · have:=mem_sum hp;omega
/-! ### one request -/
def wo (x:List Int) (y:Int):List Int:=x.filter fun z=>decide (z≠y)
/-- what one list becomes -/
def partsH (size:Nat) (item:Int) (m:List Int) (p:List Int×Nat):HL :=
  if item∈p.1 then [p] else if p.1.length<size then [(putL p.1 item,p.2)] else (opn p.1 m).map fun y=>(putL (wo p.1 y) item,p.2 / (opn p.1 m).length)
def allH (size:Nat) (item:Int) (m:List Int) (h:HL):HL:=h.flatMap (partsH size item m)
def stepH (size:Nat) (item:Int) (m:List Int) (h:HL):HL:=gainsH [] (allH size item m h)
def missH (item:Int) (h:HL):HL:=h.filter fun p=>decide (item ∉ p.1)
def faultH (item:Int) (h:HL):Nat:=sumH (missH item h)
theorem faultH_le (item:Int):∀ h:HL,faultH item h≤sumH h
  | []=>by simp [faultH,missH,sumH]
  | p::h=>by
    have:=faultH_le item h
    unfold faultH missH at this ⊢
    rw [List.filter_cons,sumH_cons]
    split
    · rw [sumH_cons];omega
    · omega
/-- k (k - 1) .. of m factors -/
def ffl (k:Nat):Nat→Nat
  | 0=>1
  | m+1=>ffl k m*(k-m)
theorem ffl_dvd {k m:Nat} (h1:1≤k) (h2:k≤6) (hm:m≤k):ffl k m ∣ 720∧0<ffl k m:=by
  have h:∀ k∈List.range 7,∀ m∈List.range 7,1≤k→m≤k→ffl k m ∣ 720∧0<ffl k m:=by decide
  exact h k (by simp;omega) m (by simp;omega) h1 hm
/-- a list of the phase's items M, with its probability -/
structure LQ (size:Nat) (M:List Int) (p:List Int×Nat):Prop where
  lt:p.1.Pairwise (·<·)
  sub:∀ y∈M,y∈p.1
  le:p.1.length≤size
  dv:720 ∣ p.2*ffl size M.length
  pos:0<p.2
theorem LQ.add {size:Nat} {M:List Int} {x:List Int} {m n:Nat} (h1:LQ size M (x,m)) (h2:LQ size M (x,n)):LQ size M (x,m+n):=⟨h1.lt,h1.sub,h1.le,by have:=Nat.dvd_add h1.dv h2.dv;simpa [Nat.add_mul] using this,by have:=h1.pos;simp only at this ⊢;omega⟩
structure MgI (size:Nat) (M:List Int) (h:HL):Prop where
  ok:OkH (LQ size M) h
  sum:sumH h=720
  lt:M.Pairwise (·<·)
  le:M.length≤size
  full:(∀ p∈h,p.1.length=size)∨h=[(M,720)]
theorem MgI.len {size:Nat} {M:List Int} {h:HL} (H:MgI size M h):h.length≤720:=by
  have:=len_sum fun p hp=>(H.ok.all p hp).pos
  rw [H.sum] at this
  exact this
theorem nd_len:∀ {a b:List Int},a.Nodup→(∀ y∈a,y∈b)→a.length≤b.length
  | [],_,_,_=>Nat.zero_le _
  | x::a,b,ha,hs=>by
    rw [List.nodup_cons] at ha
    have hx:=hs x (by simp)
    have h1:=nd_len (a:=a) (b:=b.erase x) ha.2 fun y hy=>(List.mem_erase_of_ne (fun e=>ha.1 (by rw [← e];exact hy))).2 (hs y (by simp [hy]))
    rw [List.length_erase_of_mem hx] at h1
    have:=List.length_pos_of_mem hx
    rw [List.length_cons]
    omega
theorem sub_eq {a b:List Int} (ha:a.Pairwise (·<·)) (hb:b.Pairwise (·<·)) (hs:∀ y∈a,y∈b) (hl:b.length≤a.length):a=b:=by
  have h1:a.Nodup:=ha.imp fun h=>by omega
  refine lt_ext ha hb fun x=>⟨hs x,fun hx=>Classical.byContradiction fun hn => ?_⟩
  have:=nd_len (a:=x::a) (b:=b) (List.nodup_cons.2 ⟨hn,h1⟩) fun y hy=>by
    rw [List.mem_cons] at hy
    rcases hy with rfl | hy
    · exact hx
    · exact hs y hy
  rw [List.length_cons] at this
  omega
/-- the phase is full: one list is left -/
theorem MgI.all {size:Nat} {M:List Int} {h:HL} (H:MgI size M h) (hf:M.length=size):h=[(M,720)]:=by
  have h1:∀ p∈h,p.1=M:=fun p hp=>by
    have:=H.ok.all p hp
    exact (sub_eq H.lt this.lt this.sub (by have:=this.le;omega)).symm
  have hs:=H.sum
  have ho:=H.ok.ord
  match h,h1,hs,ho with
  | [],_,hs,_=>simp [sumH] at hs
  | [(a,b)],h1,hs,_ =>
    have e:=h1 (a,b) (by simp)
    simp only at e
    simp [sumH] at hs
    rw [e,hs]
  | p::q::l,h1,_,ho =>
    rw [List.pairwise_cons] at ho
    have:=ho.1 q (by simp)
    rw [h1 p (by simp),h1 q (by simp),lexB_irr] at this
    cases this
theorem wo_len {x:List Int} (hx:x.Pairwise (·<·)) {y:Int} (hy:y∈x):(wo x y).length+1=x.length:=by
  have hn:x.Nodup:=hx.imp fun h=>by omega
  have h1:wo x y=x.erase y:=by
    unfold wo
    rw [List.Nodup.erase_eq_filter hn]
    refine List.filter_congr fun z _ => ?_
    by_cases h:z=y<;>simp [h]
  rw [h1,List.length_erase_of_mem hy]
  have:=List.length_pos_of_mem hy
  omega
theorem putL_new {l:List Int} {n:Int} (h:n ∉ l):(putL l n).length=l.length+1:=by
  unfold putL
  have:=plc_le n l
  split
  · rename_i h1
    refine absurd ?_ h
    have h2:=h1.2
    rw [getD_inL h1.1] at h2
    rw [← h2]
    exact List.getElem_mem _
  · simp;omega
theorem putL_in {l:List Int} (hl:l.Pairwise (·<·)) {n:Int} (h:n∈l):putL l n=l :=
  lt_ext (putL_lt hl n) hl fun x=>by
    rw [putL_mem]
    exact ⟨fun h1=>h1.elim id fun h2=>by rw [h2];exact h,.inl⟩
theorem opn_mem {l before:List Int} {x:Int}:x∈opn l before↔x∈l∧x ∉ before:=by
  unfold opn
  rw [List.mem_filter]
  simp
theorem opn_congr {l m m':List Int} (h:∀ x∈l,x∈m↔x∈m'):opn l m=opn l m':=by
  unfold opn
  refine List.filter_congr fun x hx => ?_
  have:=h x hx
  by_cases h1:x∈m
  · simp [h1,this.1 h1]
  · have h2:x ∉ m':=fun h2=>h1 (this.2 h2)
    simp [h1,h2]
theorem split_len (l m:List Int):(opn l m).length+(l.filter fun x=>m.contains x).length=l.length:=by
  induction l with
  | nil=>rfl
  | cons a l ih =>
    unfold opn at ih ⊢
    rw [List.filter_cons,List.filter_cons]
    cases m.contains a
    · rw [if_pos (by rfl),if_neg (by decide),List.length_cons,List.length_cons];omega
    · rw [if_neg (by decide),if_pos rfl,List.length_cons,List.length_cons];omega
theorem opn_len {l m:List Int} (hl:l.Pairwise (·<·)) (hm:m.Pairwise (·<·)) (hs:∀ y∈m,y∈l):(opn l m).length+m.length=l.length:=by
  have h1:(l.filter fun x=>m.contains x)=m:=lt_ext (hl.filter _) hm fun x=>by
    rw [List.mem_filter]
    simp only [List.contains_eq_mem,decide_eq_true_eq]
    exact ⟨fun h=>h.2,fun h=>⟨hs x h,h⟩⟩
  have h2:=split_len l m
  rw [h1] at h2
  exact h2
theorem map_sum {α:Type} (l:List α) (f:α→List Int) (n:Nat):sumH (l.map fun y=>(f y,n))=l.length*n:=by
  induction l with
  | nil=>simp [sumH]
  | cons a l ih=>rw [List.map_cons,sumH_cons,ih,List.length_cons,Nat.add_mul];omega
theorem ffl_div {k m N:Nat} (h1:1≤k) (h2:k≤6) (hm:m<k) (hd:720 ∣ N*ffl k m):(k-m) ∣ N∧720 ∣ N / (k-m)*ffl k (m+1):=by
  obtain ⟨⟨q,hq⟩,hp⟩:=ffl_dvd h1 h2 (m:=m+1) (by omega)
  obtain ⟨-,hp0⟩:=ffl_dvd h1 h2 (m:=m) (by omega)
  have e:ffl k (m+1)=ffl k m*(k-m):=rfl
  have hdv:(k-m) ∣ N:=by
    obtain ⟨r,hr⟩:=hd
    rw [hq,e] at hr
    refine ⟨q*r,?_⟩
    have h3:ffl k m*N=ffl k m*((k-m)*(q*r)):=by
      rw [Nat.mul_comm,hr,Nat.mul_assoc,Nat.mul_assoc]
    exact Nat.eq_of_mul_eq_mul_left hp0 h3
  refine ⟨hdv,?_⟩
  rw [e,Nat.mul_comm (ffl k m),← Nat.mul_assoc,Nat.div_mul_cancel hdv]
  exact hd
/-- what the parts of one list are: where the item is new -/
theorem parts_new {size:Nat} {M:List Int} {item:Int} {p:List Int×Nat} (h1:1≤size) (h2:size≤6) (hM:M.Pairwise (·<·)) (hi:item ∉ M) (hlt:M.length<size) (hp:LQ size M p) (hl:p.1.length=size) :
    (∀ q∈partsH size item M p,LQ size (putL M item) q∧q.1.length=size)∧sumH (partsH size item M p)=p.2:=by
  have hML:(putL M item).length=M.length+1:=putL_new hi
  obtain ⟨hdv,hd2⟩:=ffl_div (N:=p.2) h1 h2 hlt hp.dv
  unfold partsH
  split
  · rename_i hin
    refine ⟨fun q hq => ?_,by simp [sumH]⟩
    rw [List.mem_singleton] at hq
    subst hq
    refine ⟨⟨hp.lt,fun y hy => ?_,hp.le,?_,hp.pos⟩,hl⟩
    · rw [putL_mem] at hy
      rcases hy with hy | rfl
      · exact hp.sub y hy
      · exact hin
    · rw [hML]
      show 720 ∣ q.2*(ffl size M.length*(size-M.length))
      rw [← Nat.mul_assoc]
      exact Nat.dvd_mul_right_of_dvd hp.dv _
  · rename_i hin
    rw [if_neg (by omega)]
    have hol:=opn_len hp.lt hM hp.sub
    have hon:(opn p.1 M).length=size-M.length:=by omega
    refine ⟨fun q hq => ?_,?_⟩
    · rw [List.mem_map] at hq
      obtain ⟨y,hy,rfl⟩:=hq
      obtain ⟨hy1,hy2⟩:=opn_mem.1 hy
      have hw:=wo_len hp.lt hy1
      have hwi:item ∉ wo p.1 y:=fun h=>hin ((List.mem_filter.1 h).1)
      have hpl:=putL_new hwi
      have hwl:(wo p.1 y).Pairwise (·<·):=hp.lt.filter _
      have hll:(putL (wo p.1 y) item).length=size:=by omega
      refine ⟨⟨putL_lt hwl item,fun z hz => ?_,Nat.le_of_eq hll,?_,?_⟩,hll⟩
      · rw [putL_mem] at hz
        refine putL_mem.2 ?_
        rcases hz with hz | rfl
        · refine .inl (List.mem_filter.2 ⟨hp.sub z hz,?_⟩)
          simp only [decide_eq_true_eq]
          intro e
          subst e
          exact hy2 hz
        · exact .inr rfl
      · rw [hML,hon]
        exact hd2
      · rw [hon]
        exact Nat.div_pos (Nat.le_of_dvd hp.pos hdv) (by omega)
    · rw [map_sum,hon]
      exact Nat.mul_div_cancel' hdv
theorem all_sum {size:Nat} {item:Int} {m:List Int}:∀ {h:HL},(∀ p∈h,sumH (partsH size item m p)=p.2)→sumH (allH size item m h)=sumH h
  | [],_=>rfl
  | p::h,hp=>by
    show sumH (partsH size item m p++allH size item m h)=_
    rw [sumH_app,hp p (by simp),all_sum fun q hq=>hp q (by simp [hq]),sumH_cons]
theorem all_mem {size:Nat} {item:Int} {m:List Int} {h:HL} {q:List Int×Nat} (hq:q∈allH size item m h):∃ p∈h,q∈partsH size item m p:=List.mem_flatMap.1 hq
theorem gains_full {size:Nat} {ps:HL} (h:∀ p∈ps,p.1.length=size):∀ p∈gainsH [] ps,p.1.length=size:=by
  have:=(OkH.gains (Q:=fun p=>p.1.length=size) (fun _ _ _ h _=>h) (OkH.nil _) h).all
  exact this
theorem gains_id:∀ {h acc:HL},(acc++h).Pairwise (fun p q=>lexB p.1 q.1=true)→gainsH acc h=acc++h
  | [],acc,_=>by simp [gainsH]
  | p::h,acc,ho=>by
    have e:gainH acc p.1 p.2=acc++[p]:=by
      have h1:∀ q∈acc,lexB q.1 p.1=true:=fun q hq=>(List.pairwise_append.1 ho).2.2 q hq p (by simp)
      clear ho
      induction acc with
      | nil=>rfl
      | cons q acc ih =>
        unfold gainH
        rw [if_pos (h1 q (by simp)),ih fun r hr=>h1 r (by simp [hr])]
        rfl
    show gainsH (gainH acc p.1 p.2) h=_
    rw [e,gains_id (by simpa using ho)]
    simp
/-- a request of an item that is marked turns nothing -/
theorem step_old {size:Nat} {M:List Int} {item:Int} {h:HL} (m:List Int) (H:MgI size M h) (hi:item∈M):stepH size item m h=h:=by
  have e:allH size item m h=h:=by
    have:∀ l:HL,(∀ p∈l,item∈p.1)→allH size item m l=l:=fun l=>by
      induction l with
      | nil=>intro _;rfl
      | cons p l ih =>
        intro hl
        show partsH size item m p++allH size item m l=_
        rw [ih fun q hq=>hl q (by simp [hq])]
        unfold partsH
        rw [if_pos (hl p (by simp))]
        rfl
    exact this h fun p hp=>(H.ok.all p hp).sub item hi
  unfold stepH
  rw [e]
  have:=gains_id (h:=h) (acc:=[]) (by simpa using H.ok.ord)
  simpa using this
/-- a request of a new item, where the phase goes on -/
theorem step_new {size:Nat} {M:List Int} {item:Int} {h:HL} (h1:1≤size) (h2:size≤6) (H:MgI size M h) (hi:item ∉ M) (hlt:M.length<size):MgI size (putL M item) (stepH size item M h):=by
  have hML:(putL M item).length=M.length+1:=putL_new hi
  rcases H.full with hf | hf
  · have hq:∀ q∈allH size item M h,LQ size (putL M item) q∧q.1.length=size:=fun q hq=>by
      obtain ⟨p,hp,hq⟩:=all_mem hq
      exact (parts_new h1 h2 H.lt hi hlt (H.ok.all p hp) (hf p hp)).1 q hq
    refine ⟨OkH.gains (fun _ _ _ ha hb=>ha.add hb) (OkH.nil _) fun q hq'=>(hq q hq').1,?_,putL_lt H.lt item,by omega,.inl (gains_full fun q hq'=>(hq q hq').2)⟩
    unfold stepH
    rw [sumH_gains,all_sum fun p hp=>(parts_new h1 h2 H.lt hi hlt (H.ok.all p hp) (hf p hp)).2,H.sum]
    rfl
  · subst hf
    have e:stepH size item M [(M,720)]=[(putL M item,720)]:=by
      unfold stepH allH
      rw [List.flatMap_cons,List.flatMap_nil,List.append_nil]
      unfold partsH
      rw [if_neg hi,if_pos hlt]
      rfl
    rw [e]
    refine ⟨⟨by simp,fun p hp => ?_⟩,by simp [sumH],putL_lt H.lt item,by omega,.inr rfl⟩
    rw [List.mem_singleton] at hp
    subst hp
    exact ⟨putL_lt H.lt item,fun y hy=>hy,by simp only;omega,Nat.dvd_mul_right _ _,by simp⟩
theorem MgI.reset {size:Nat} {M:List Int} {h:HL} (H:MgI size M h) (hf:M.length=size):MgI size [] h:=by
  have e:=H.all hf
  refine ⟨⟨H.ok.ord,fun p hp => ?_⟩,H.sum,List.Pairwise.nil,Nat.zero_le _,.inl fun p hp => ?_⟩
  · rw [e,List.mem_singleton] at hp
    subst hp
    exact ⟨H.lt,fun y hy=>by simp at hy,Nat.le_of_eq hf,by simp [ffl],by simp⟩
  · rw [e,List.mem_singleton] at hp
    subst hp
    exact hf
/-! ### one request, step by step -/
/-- what a request asks of what is held -/
structure RqOK (size:Nat) (item:Int) (m:List Int) (h:HL):Prop where
  s6:size≤6
  ord:h.Pairwise fun p q=>lexB p.1 q.1=true
  len:h.length≤720
  el:∀ p∈h,p.1.length≤6∧p.1.Pairwise (·<·)
  sum:sumH h≤720
  dv:∀ p∈h,item ∉ p.1→¬ p.1.length<size→0<(opn p.1 m).length∧(opn p.1 m).length ∣ p.2
  pos:∀ q∈allH size item m h,0<q.2
  all:sumH (allH size item m h)≤720
/-- the parts of the first i lists, and the first k of the next one -/
def accH (size:Nat) (item:Int) (m:List Int) (h:HL) (i k:Nat):HL:=gainsH [] (allH size item m (h.take i)++(partsH size item m (h.getD i ([],0))).take k)
theorem allH_succ {size:Nat} {item:Int} {m:List Int} {h:HL} {i:Nat} (hi:i<h.length):allH size item m (h.take (i+1))=allH size item m (h.take i)++partsH size item m (h.getD i ([],0)):=by
  unfold allH
  rw [take_getD hi ([],0),List.flatMap_append,List.flatMap_cons,List.flatMap_nil,List.append_nil]
theorem accH_zero (size:Nat) (item:Int) (m:List Int) (h:HL) (i:Nat):accH size item m h i 0=gainsH [] (allH size item m (h.take i)):=by
  unfold accH
  rw [List.take_zero,List.append_nil]
theorem accH_end {size:Nat} {item:Int} {m:List Int} {h:HL} {i k:Nat} (hi:i<h.length) (hk:(partsH size item m (h.getD i ([],0))).length≤k):accH size item m h i k=accH size item m h (i+1) 0:=by
  rw [accH_zero,allH_succ hi]
  unfold accH
  rw [List.take_of_length_le hk]
theorem accH_next {size:Nat} {item:Int} {m:List Int} {h:HL} {i k:Nat} (hk:k<(partsH size item m (h.getD i ([],0))).length):accH size item m h i (k+1)=gainH (accH size item m h i k) ((partsH size item m (h.getD i ([],0))).getD k ([],0)).1 ((partsH size item m (h.getD i ([],0))).getD k ([],0)).2:=by
  unfold accH
  rw [take_getD hk ([],0),← List.append_assoc,gainsH_app]
  rfl
theorem accH_sub {size:Nat} {item:Int} {m:List Int} {h:HL} {i:Nat} (hlt:i<h.length) (k:Nat):∃ rest,allH size item m h=allH size item m (h.take i)++(partsH size item m (h.getD i ([],0))).take k++rest:=by
  have e:allH size item m h=allH size item m (h.take (i+1))++allH size item m (h.drop (i+1)):=by
    unfold allH
    rw [← List.flatMap_append,List.take_append_drop]
  rw [e,allH_succ hlt]
  refine ⟨(partsH size item m (h.getD i ([],0))).drop k++allH size item m (h.drop (i+1)),?_⟩
  rw [List.append_assoc,List.append_assoc,← List.append_assoc (List.take k _),List.take_append_drop]
/-- what is held so far -/
theorem accH_ok {size:Nat} {item:Int} {m:List Int} {h:HL} (H:RqOK size item m h) {i:Nat} (hi:i<h.length) (k:Nat):(accH size item m h i k).Pairwise (fun p q=>lexB p.1 q.1=true)∧(accH size item m h i k).length≤720∧(∀ p∈accH size item m h i k,p.2≤720):=by
  obtain ⟨rest,hr⟩:=accH_sub (size:=size) (item:=item) (m:=m) (h:=h) hi k
  have hpos:∀ q∈allH size item m (h.take i)++(partsH size item m (h.getD i ([],0))).take k,0<q.2:=fun q hq=>H.pos q (by rw [hr];exact List.mem_append_left _ hq)
  have hok:=OkH.gains (Q:=fun p=>0<p.2) (fun _ m n h1 _=>by simp only at h1 ⊢;omega) (OkH.nil _) hpos
  have hsum:sumH (accH size item m h i k)≤720:=by
    have h1:=H.all
    rw [hr,sumH_app] at h1
    unfold accH
    rw [sumH_gains]
    simp only [sumH,List.map_nil,List.sum_nil,Nat.zero_add] at h1 ⊢
    omega
  exact ⟨hok.ord,Nat.le_trans (len_sum hok.all) hsum,fun p hp=>Nat.le_trans (mem_sum hp) hsum⟩
/-! ### a sequence -/
/-- the marked items ahead of the i-th request, where its phase has begun -/
def mkB (size:Nat) (xs:List Int) (i:Nat):List Int:=if i=0∨(size:Int)<((putL (itm size xs i) (xs.getD i 0)).length:Int) then [] else itm size xs i
def hR (size:Nat) (xs:List Int):Nat→HL
  | 0=>[([],720)]
  | i+1=>stepH size (xs.getD i 0) (mkB size xs i) (hR size xs i)
def fR (size:Nat) (xs:List Int):Nat→Nat
  | 0=>0
  | i+1=>fR size xs i+faultH (xs.getD i 0) (hR size xs i)
theorem itm_lt (size:Int) (xs:List Int) (i:Nat):(itm size xs i).Pairwise (·<·):=rs_lt _
theorem itm_zero (size:Int) (xs:List Int):itm size xs 0=[]:=by
  unfold itm prt
  simp [rs_nil]
theorem itm_mkB {size:Nat} {xs:List Int} {i:Nat} (hi:i<xs.length):itm size xs (i+1)=putL (mkB size xs i) (xs.getD i 0):=by
  rw [itm_next hi]
  unfold mkB
  split
  · rfl
  · rfl
theorem mg_inv {size:Nat} {xs:List Int} (h1:1≤size) (h2:size≤6):∀ i,i≤xs.length→MgI size (itm size xs i) (hR size xs i)
  | 0,_=>by
    rw [itm_zero]
    exact ⟨⟨by simp [hR],fun p hp=>by simp [hR] at hp;subst hp;exact ⟨List.Pairwise.nil,fun y hy=>by simp at hy,Nat.zero_le _,by simp [ffl],by simp⟩⟩,rfl,List.Pairwise.nil,Nat.zero_le _,.inr rfl⟩
  | i+1,hi=>by
    have ih:=mg_inv (size:=size) (xs:=xs) h1 h2 i (by omega)
    rw [itm_mkB (by omega)]
    show MgI size _ (stepH size (xs.getD i 0) (mkB size xs i) (hR size xs i))
    by_cases hin:xs.getD i 0∈itm size xs i
    · have e1:=putL_in ih.lt hin
      have hne:¬ (i=0∨(size:Int)<((putL (itm size xs i) (xs.getD i 0)).length:Int)):=by
        rw [e1]
        rintro (rfl | h)
        · rw [itm_zero] at hin;simp at hin
        · have:=ih.le;omega
      have e2:mkB size xs i=itm size xs i:=if_neg hne
      rw [e2,e1,step_old _ ih hin]
      exact ih
    · have e1:=putL_new hin
      rcases Nat.lt_or_ge (itm size xs i).length size with hlt | hge
      · have e2:mkB size xs i=itm size xs i:=by
          unfold mkB
          split
          · rename_i h
            rcases h with rfl | h
            · rw [itm_zero]
            · rw [e1] at h;omega
          · rfl
        rw [e2]
        exact step_new h1 h2 ih hin hlt
      · have hf:(itm size xs i).length=size:=by have:=ih.le;omega
        have e2:mkB size xs i=[]:=if_pos (.inr (by rw [e1];omega))
        rw [e2]
        exact step_new h1 h2 (ih.reset hf) (by simp) (by simp;omega)
theorem fR_le {size:Nat} {xs:List Int} (h1:1≤size) (h2:size≤6):∀ i,i≤xs.length→fR size xs i≤720*i
  | 0,_=>Nat.le_refl _
  | i+1,hi=>by
    have ih:=fR_le (size:=size) (xs:=xs) h1 h2 i (by omega)
    have:=faultH_le (xs.getD i 0) (hR size xs i)
    rw [(mg_inv h1 h2 i (by omega)).sum] at this
    show fR size xs i+faultH (xs.getD i 0) (hR size xs i)≤_
    omega
end Go.Proofs.YtjblpcgkffhgfaaGreat
/- Random marking: what the program and the reference take for marked: the plain laws. Conditions: those that each names. -/
set_option linter.all false
set_option linter.unusedSimpArgs false
set_option linter.unusedVariables false
namespace Go.Proofs.YtjblpcgkffhgfaaGreat

theorem parts_congr {size:Nat} {item:Int} {m m':List Int} {p:List Int×Nat} (h:item ∉ p.1→opn p.1 m=opn p.1 m'):partsH size item m p=partsH size item m' p:=by
  unfold partsH
  split
  · rfl
  · rename_i hi
    rw [h hi]
theorem all_congr {size:Nat} {item:Int} {m m':List Int}:∀ {h:HL},(∀ p∈h,item ∉ p.1→opn p.1 m=opn p.1 m')→allH size item m h=allH size item m' h
  | [],_=>rfl
  | p::h,hp=>by
    show partsH size item m p++allH size item m h=partsH size item m' p++allH size item m' h
    rw [parts_congr (hp p (by simp)),all_congr fun q hq=>hp q (by simp [hq])]
theorem step_congr {size:Nat} {item:Int} {m m':List Int} {h:HL} (hp:∀ p∈h,item ∉ p.1→opn p.1 m=opn p.1 m'):stepH size item m h=stepH size item m' h:=by
  unfold stepH
  rw [all_congr hp]
theorem RqOK.congr {size:Nat} {item:Int} {m m':List Int} {h:HL} (H:RqOK size item m h) (hp:∀ p∈h,item ∉ p.1→opn p.1 m=opn p.1 m'):RqOK size item m' h :=
  ⟨H.s6,H.ord,H.len,H.el,H.sum,fun p h1 h2 h3=>by rw [← hp p h1 h2];exact H.dv p h1 h2 h3,by rw [← all_congr hp];exact H.pos,by rw [← all_congr hp];exact H.all⟩
theorem mg_cases {size:Nat} {xs:List Int} (h1:1≤size) (h2:size≤6) {i:Nat} (hi:i<xs.length):(xs.getD i 0∈itm size xs i∧mkB size xs i=itm size xs i∧MgI size (itm size xs i) (hR size xs i))∨(xs.getD i 0 ∉ itm size xs i∧xs.getD i 0 ∉ mkB size xs i∧(mkB size xs i).length<size∧MgI size (mkB size xs i) (hR size xs i)∧((itm size xs i).length=size∧mkB size xs i=[]∨(itm size xs i).length<size∧mkB size xs i=itm size xs i)):=by
  have ih:=mg_inv (size:=size) (xs:=xs) h1 h2 i (by omega)
  by_cases hin:xs.getD i 0∈itm size xs i
  · have e1:=putL_in ih.lt hin
    have hne:¬ (i=0∨(size:Int)<((putL (itm size xs i) (xs.getD i 0)).length:Int)):=by
      rw [e1]
      rintro (rfl | h)
      · rw [itm_zero] at hin;simp at hin
      · have:=ih.le;omega
    exact .inl ⟨hin,if_neg hne,ih⟩
  · have e1:=putL_new hin
    rcases Nat.lt_or_ge (itm size xs i).length size with hlt | hge
    · have e2:mkB size xs i=itm size xs i:=by
        unfold mkB
        split
        · rename_i h
          rcases h with rfl | h
          · rw [itm_zero]
          · rw [e1] at h;omega
        · rfl
      exact .inr ⟨hin,by rw [e2];exact hin,by rw [e2];exact hlt,by rw [e2];exact ih,.inr ⟨hlt,e2⟩⟩
    · have hf:(itm size xs i).length=size:=by have:=ih.le;omega
      have e2:mkB size xs i=[]:=if_pos (.inr (by rw [e1];omega))
      exact .inr ⟨hin,by rw [e2];simp,by rw [e2];simp;omega,by rw [e2];exact ih.reset hf,.inl ⟨hf,e2⟩⟩
/-- the next request may be made -/
theorem rq_ok {size:Nat} {xs:List Int} (h1:1≤size) (h2:size≤6) {i:Nat} (hi:i<xs.length):RqOK size (xs.getD i 0) (mkB size xs i) (hR size xs i):=by
  have H:∃ M,MgI size M (hR size xs i):=⟨_,mg_inv h1 h2 i (by omega)⟩
  obtain ⟨M',H'⟩:=H
  have hel:∀ p∈hR size xs i,p.1.length≤6∧p.1.Pairwise (·<·):=fun p hp=>⟨Nat.le_trans (H'.ok.all p hp).le h2,(H'.ok.all p hp).lt⟩
  rcases mg_cases h1 h2 hi with ⟨hin,e,H⟩ | ⟨-,hni,hlt,H,-⟩
  · have hall:∀ p∈hR size xs i,xs.getD i 0∈p.1:=fun p hp=>(H.ok.all p hp).sub _ hin
    have e2:allH size (xs.getD i 0) (mkB size xs i) (hR size xs i)=hR size xs i:=by
      have:∀ l:HL,(∀ p∈l,xs.getD i 0∈p.1)→allH size (xs.getD i 0) (mkB size xs i) l=l:=fun l=>by
        induction l with
        | nil=>intro _;rfl
        | cons p l ih =>
          intro hl
          show partsH size (xs.getD i 0) (mkB size xs i) p++allH size (xs.getD i 0) (mkB size xs i) l=_
          rw [ih fun q hq=>hl q (by simp [hq])]
          unfold partsH
          rw [if_pos (hl p (by simp))]
          rfl
      exact this _ hall
    exact ⟨h2,H.ok.ord,H.len,hel,Nat.le_of_eq H.sum,fun p hp hn=>absurd (hall p hp) hn,by rw [e2];exact fun q hq=>(H.ok.all q hq).pos,by rw [e2];exact Nat.le_of_eq H.sum⟩
  · rcases H.full with hf | hf
    · have hpn:=fun p hp=>parts_new h1 h2 H.lt hni hlt (H.ok.all p hp) (hf p hp)
      refine ⟨h2,H.ok.ord,H.len,hel,Nat.le_of_eq H.sum,fun p hp hn _ => ?_,fun q hq => ?_,?_⟩
      · have h3:=H.ok.all p hp
        have h4:=opn_len h3.lt H.lt h3.sub
        have h5:=hf p hp
        have h6:=ffl_div (N:=p.2) h1 h2 hlt h3.dv
        have e:(opn p.1 (mkB size xs i)).length=size-(mkB size xs i).length:=by omega
        rw [e]
        exact ⟨by omega,h6.1⟩
      · obtain ⟨p,hp,hq⟩:=all_mem hq
        exact ((hpn p hp).1 q hq).1.pos
      · rw [all_sum fun p hp=>(hpn p hp).2]
        exact Nat.le_of_eq H.sum
    · have e2:allH size (xs.getD i 0) (mkB size xs i) (hR size xs i)=[(putL (mkB size xs i) (xs.getD i 0),720)]:=by
        conv=>lhs;rw [hf]
        unfold allH
        rw [List.flatMap_cons,List.flatMap_nil,List.append_nil]
        unfold partsH
        rw [if_neg hni,if_pos hlt]
      refine ⟨h2,H.ok.ord,H.len,hel,Nat.le_of_eq H.sum,fun p hp hn hl => ?_,fun q hq => ?_,?_⟩
      · rw [hf,List.mem_singleton] at hp
        subst hp
        exact absurd hlt hl
      · rw [e2,List.mem_singleton] at hq
        subst hq
        simp
      · rw [e2]
        simp [sumH]
/-! ### the program's list of the marked -/
def mkR (size:Int) (M:List Int) (item:Int):List Int:=if M.contains item=true then M else (if (M.length:Int)=size then [] else M)++[item]
def mkM (size:Nat) (xs:List Int):Nat→List Int
  | 0=>[]
  | k+1=>mkR size (mkM size xs k) (xs.getD k 0)
theorem mkM_inv {size:Nat} {xs:List Int} (h1:1≤size) (h2:size≤6):∀ k,k≤xs.length→(∀ y,y∈mkM size xs k↔y∈itm size xs k)∧(mkM size xs k).length=(itm size xs k).length
  | 0,_=>by rw [itm_zero];exact ⟨fun y=>Iff.rfl,rfl⟩
  | k+1,hk=>by
    obtain ⟨i1,i2⟩:=mkM_inv (size:=size) (xs:=xs) h1 h2 k (by omega)
    rw [itm_mkB (by omega)]
    show (∀ y,y∈mkR size (mkM size xs k) (xs.getD k 0)↔_)∧(mkR size (mkM size xs k) (xs.getD k 0)).length=_
    unfold mkR
    rcases mg_cases h1 h2 (show k<xs.length by omega) with ⟨hin,e,H⟩ | ⟨hni,hnb,hlt,H,hc⟩
    · rw [if_pos (by simpa using (i1 _).2 hin),e,putL_in H.lt hin]
      exact ⟨i1,i2⟩
    · have hnc:¬ (mkM size xs k).contains (xs.getD k 0)=true:=fun h=>hni ((i1 _).1 (by simpa using h))
      rw [if_neg hnc,putL_new hnb]
      rcases hc with ⟨hf,e⟩ | ⟨hf,e⟩
      · rw [if_pos (by omega),e]
        exact ⟨fun y=>by rw [putL_mem];simp,by simp⟩
      · rw [if_neg (by omega),e]
        refine ⟨fun y => ?_,by simp [i2]⟩
        rw [putL_mem,List.mem_append,List.mem_singleton,i1]
theorem mkM_len {size:Nat} {xs:List Int} (h1:1≤size) (h2:size≤6) {k:Nat} (hk:k≤xs.length):(mkM size xs k).length≤6:=by
  rw [(mkM_inv h1 h2 k hk).2]
  have:=(mg_inv h1 h2 k hk).le
  omega
/-- where the item is not held, the program's marked items are the phase's -/
theorem mkM_opn {size:Nat} {xs:List Int} (h1:1≤size) (h2:size≤6) {k:Nat} (hk:k<xs.length):∀ p∈hR size xs k,xs.getD k 0 ∉ p.1→opn p.1 (mkB size xs k)=opn p.1 (mkR size (mkM size xs k) (xs.getD k 0)):=fun p hp hn=>by
  have hm:=(mkM_inv (size:=size) (xs:=xs) h1 h2 (k+1) (by omega)).1
  rw [itm_mkB hk] at hm
  refine opn_congr fun y hy => ?_
  have h3:=hm y
  rw [putL_mem] at h3
  have h4:y∈mkR size (mkM size xs k) (xs.getD k 0)↔y∈mkB size xs k∨y=xs.getD k 0:=h3
  rw [h4]
  exact ⟨.inl,fun h=>h.elim id fun e=>by rw [e] at hy;exact absurd hy hn⟩
theorem mkM_ok {size:Nat} {xs:List Int} (h1:1≤size) (h2:size≤6) {k:Nat} (hk:k<xs.length):RqOK size (xs.getD k 0) (mkR size (mkM size xs k) (xs.getD k 0)) (hR size xs k):=(rq_ok h1 h2 hk).congr (mkM_opn h1 h2 hk)
theorem mkM_step {size:Nat} {xs:List Int} (h1:1≤size) (h2:size≤6) {k:Nat} (hk:k<xs.length):stepH size (xs.getD k 0) (mkR size (mkM size xs k) (xs.getD k 0)) (hR size xs k)=hR size xs (k+1):=(step_congr (mkM_opn h1 h2 hk)).symm
/-! ### the reference's -/
/-- the requests of the phase ahead of the i-th one -/
def prM (size:Int) (xs:List Int) (i:Nat):List Int:=prt ((phL size xs (i+1)).getLastD 0) i xs
theorem prM_mem {size:Nat} {xs:List Int} {i:Nat} (hi:i<xs.length) (y:Int):y∈prM size xs i↔y∈mkB size xs i:=by
  have e:(phL size xs i=[]∨(size:Int)<((rs (prt ((phL size xs i).getLastD 0) (i+1) xs)).length:Int))↔(i=0∨(size:Int)<((putL (itm size xs i) (xs.getD i 0)).length:Int)):=by
    rw [itm_put hi]
    refine or_congr ⟨fun h => ?_,fun h=>by subst h;rfl⟩ Iff.rfl
    rcases Nat.eq_zero_or_pos i with h0 | h0
    · exact h0
    · exact absurd h (phL_pos h0)
  unfold prM mkB
  by_cases h:i=0∨(size:Int)<((putL (itm size xs i) (xs.getD i 0)).length:Int)
  · rw [if_pos h,show phL size xs (i+1)=phL size xs i++[i] from if_pos (e.2 h),getLastD_snoc]
    simp [prt]
  · rw [if_neg h,show phL size xs (i+1)=phL size xs i from if_neg fun h1=>h (e.1 h1)]
    exact rs_mem.symm
theorem prM_opn {size:Nat} {xs:List Int} {i:Nat} (hi:i<xs.length) (p:List Int):opn p (mkB size xs i)=opn p (prM size xs i):=opn_congr fun y _=>(prM_mem hi y).symm
theorem prM_ok {size:Nat} {xs:List Int} (h1:1≤size) (h2:size≤6) {k:Nat} (hk:k<xs.length):RqOK size (xs.getD k 0) (prM size xs k) (hR size xs k):=(rq_ok h1 h2 hk).congr fun p _ _=>prM_opn hk p.1
theorem prM_step {size:Nat} {xs:List Int} {k:Nat} (hk:k<xs.length):stepH size (xs.getD k 0) (prM size xs k) (hR size xs k)=hR size xs (k+1):=(step_congr fun p _ _=>prM_opn hk p.1).symm
end Go.Proofs.YtjblpcgkffhgfaaGreat
