/- Random marking: old items that are not marked are held alike: the plain laws. Conditions: those that each names. -/
import Derived.Test.YtjblpcgkffhgfaaGreatGMP
import Derived.Test.YtjblpcgkffhgfaaGreatGCB
import Derived.Test.YtjblpcgkffhgfaaGreatGPP
import Derived.Test.YtjblpcgkffhgfaaGreatGML
set_option linter.all false
set_option linter.unusedSimpArgs false
set_option linter.unusedVariables false
namespace Go.Proofs.YtjblpcgkffhgfaaGreat

/-! ### two items change their places -/
def sw (a b z:Int):Int:=if z=a then b else if z=b then a else z
theorem sw_sw (a b z:Int):sw a b (sw a b z)=z:=by
  unfold sw
  by_cases h1:z=a
  · rw [if_pos h1]
    by_cases h2:b=a
    · rw [if_pos h2];omega
    · rw [if_neg h2,if_pos rfl];omega
  · rw [if_neg h1]
    by_cases h2:z=b
    · rw [if_pos h2,if_pos rfl];omega
    · rw [if_neg h2,if_neg h1,if_neg h2]
theorem sw_inj {a b y z:Int} (h:sw a b y=sw a b z):y=z:=by rw [← sw_sw a b y,h,sw_sw]
theorem sw_fix {a b z:Int} (h1:z≠a) (h2:z≠b):sw a b z=z:=by unfold sw;rw [if_neg h1,if_neg h2]
theorem sw_l (a b:Int):sw a b a=b:=if_pos rfl
theorem sw_r (a b:Int):sw a b b=a:=by
  have:=sw_sw a b a
  rwa [sw_l] at this
def swL (a b:Int) (x:List Int):List Int:=rs (x.map (sw a b))
theorem swL_lt (a b:Int) (x:List Int):(swL a b x).Pairwise (·<·):=rs_lt _
theorem swL_mem {a b z:Int} {x:List Int}:z∈swL a b x↔sw a b z∈x:=by
  unfold swL
  rw [rs_mem,List.mem_map]
  constructor
  · rintro ⟨y,hy,rfl⟩
    rw [sw_sw]
    exact hy
  · exact fun h=>⟨_,h,sw_sw a b z⟩
theorem swL_id {a b:Int} {x:List Int} (hx:x.Pairwise (·<·)) (ha:a∈x) (hb:b∈x):swL a b x=x :=
  lt_ext (swL_lt a b x) hx fun z=>by
    rw [swL_mem]
    by_cases h1:z=a
    · subst h1;rw [sw_l];exact ⟨fun _=>ha,fun _=>hb⟩
    · by_cases h2:z=b
      · subst h2;rw [sw_r];exact ⟨fun _=>hb,fun _=>ha⟩
      · rw [sw_fix h1 h2]
theorem perm_sum {α:Type} {f:α→Nat} {l l':List α} (h:l.Perm l'):(l.map f).sum=(l'.map f).sum:=by
  induction h with
  | nil=>rfl
  | cons x _ ih=>simp [ih]
  | swap x y l=>simp;omega
  | trans _ _ h1 h2=>exact h1.trans h2
theorem rsm_perm {l:List Int} (h:l.Nodup):(rs l).Perm l:=by
  have h1:(srt l).Perm l:=List.mergeSort_perm _ _
  have h2:(srt l).Nodup:=h1.nodup_iff.2 h
  have h3:(srt l).Pairwise (·<·):=by
    refine (List.Pairwise.and (srt_le l) h2).imp fun {x y} h => ?_
    obtain ⟨h4,h5⟩:=h
    omega
  have h4:rs l=srt l:=rs_of h3 fun x=>srt_mem
  rw [h4]
  exact h1
/-- the open items of the changed list are the changed open items -/
theorem opn_sw {a b:Int} {x M:List Int} (hx:x.Pairwise (·<·)) (ha:a ∉ M) (hb:b ∉ M):((opn x M).map (sw a b)).Perm (opn (swL a b x) M):=by
  have hn:((opn x M).map (sw a b)).Nodup:=by
    have h1:(opn x M).Nodup:=(hx.filter _).imp fun h=>by omega
    exact (List.pairwise_map.2 (h1.imp fun h e=>h (sw_inj e)))
  have e:rs ((opn x M).map (sw a b))=opn (swL a b x) M:=by
    refine rs_of ((swL_lt a b x).filter _) fun z => ?_
    have hM:sw a b z∈M↔z∈M:=by
      by_cases h1:z=a
      · subst h1;rw [sw_l];exact ⟨fun h=>absurd h hb,fun h=>absurd h ha⟩
      · by_cases h2:z=b
        · subst h2;rw [sw_r];exact ⟨fun h=>absurd h ha,fun h=>absurd h hb⟩
        · rw [sw_fix h1 h2]
    rw [opn_mem,swL_mem,List.mem_map,← hM]
    constructor
    · rintro ⟨h1,h2⟩
      exact ⟨_,opn_mem.2 ⟨h1,h2⟩,sw_sw a b z⟩
    · rintro ⟨y,hy,rfl⟩
      rw [sw_sw]
      exact opn_mem.1 hy
  rw [← e]
  exact (rsm_perm hn).symm
theorem put_sw {a b item y:Int} {x:List Int} (hx:x.Pairwise (·<·)) (ha:item≠a) (hb:item≠b):swL a b (putL (wo x y) item)=putL (wo (swL a b x) (sw a b y)) item :=
  lt_ext (swL_lt _ _ _) (putL_lt ((swL_lt a b x).filter _) item) fun z=>by
    have hw:∀ {l:List Int} {y z:Int},z∈wo l y↔z∈l∧z≠y:=fun {l y z}=>by unfold wo;rw [List.mem_filter];simp
    rw [swL_mem,putL_mem,putL_mem,hw,hw,swL_mem]
    have h1:sw a b z=y↔z=sw a b y:=⟨fun h=>by rw [← h,sw_sw],fun h=>by rw [h,sw_sw]⟩
    have h2:sw a b z=item↔z=item:=⟨fun h=>by rw [← sw_sw a b z,h,sw_fix ha hb],fun h=>by rw [h,sw_fix ha hb]⟩
    rw [h2,Ne,Ne,h1]
/-! ### sums over what is held -/
def SF (h:HL) (f:List Int→Nat):Nat:=(h.map fun p=>f p.1*p.2).sum
theorem SF_cons (p:List Int×Nat) (h:HL) (f:List Int→Nat):SF (p::h) f=f p.1*p.2+SF h f:=by simp [SF]
theorem SF_app (h k:HL) (f:List Int→Nat):SF (h++k) f=SF h f+SF k f:=by simp [SF]
theorem SF_gain (f:List Int→Nat):∀ (h:HL) (x:List Int) (n:Nat),SF (gainH h x n) f=SF h f+f x*n
  | [],x,n=>by simp [gainH,SF]
  | p::h,x,n=>by
    unfold gainH
    split
    · rw [SF_cons,SF_gain f h,SF_cons];omega
    · split
      · rename_i e
        rw [SF_cons,SF_cons,← e]
        simp only
        rw [Nat.mul_add]
        omega
      · rw [SF_cons];simp only;omega
theorem SF_gains (f:List Int→Nat):∀ (ps acc:HL),SF (gainsH acc ps) f=SF acc f+SF ps f
  | [],acc=>by simp [gainsH,SF]
  | p::ps,acc=>by
    show SF (gainsH (gainH acc p.1 p.2) ps) f=_
    rw [SF_gains f ps,SF_gain,SF_cons]
    omega
theorem SF_congr {h:HL} {f g:List Int→Nat} (e:∀ p∈h,f p.1=g p.1):SF h f=SF h g:=by
  unfold SF
  congr 1
  exact List.map_congr_left fun p hp=>by rw [e p hp]
theorem SF_one (h:HL):SF h (fun _=>1)=sumH h:=by
  unfold SF sumH
  congr 1
  exact List.map_congr_left fun p _=>by simp
theorem SF_add (h:HL) (f g:List Int→Nat):SF h (fun x=>f x+g x)=SF h f+SF h g:=by
  induction h with
  | nil=>rfl
  | cons p h ih=>rw [SF_cons,SF_cons,SF_cons,ih,Nat.add_mul];omega
theorem SF_mul (h:HL) (c:Nat) (f:List Int→Nat):SF h (fun x=>c*f x)=c*SF h f:=by
  induction h with
  | nil=>simp [SF]
  | cons p h ih=>rw [SF_cons,SF_cons,ih,Nat.mul_add,Nat.mul_assoc]
/-- the share of lists that lack an item -/
def miss (a:Int) (h:HL):Nat:=SF h fun x=>if a∈x then 0 else 1
theorem fault_miss (a:Int):∀ h:HL,faultH a h=miss a h
  | []=>rfl
  | p::h=>by
    have ih:=fault_miss a h
    unfold miss at ih ⊢
    rw [SF_cons,← ih]
    unfold faultH missH
    rw [List.filter_cons]
    by_cases h1:a∈p.1
    · rw [if_neg (by simp only [decide_eq_true_eq];exact fun h2=>h2 h1),if_pos h1];simp
    · rw [if_pos (decide_eq_true h1),if_neg h1,sumH_cons];simp
/-- what one list counts for behind a request of a new item; d: how many may leave -/
def nxtF (d:Nat) (item:Int) (M:List Int) (f:List Int→Nat) (x:List Int):Nat:=if item∈x then d*f x else ((opn x M).map fun y=>f (putL (wo x y) item)).sum
theorem map_mul {α:Type} (l:List α) (g:α→List Int) (f:List Int→Nat) (n:Nat):SF (l.map fun y=>(g y,n)) f=(l.map fun y=>f (g y)).sum*n:=by
  induction l with
  | nil=>simp [SF]
  | cons a l ih=>rw [List.map_cons,SF_cons,ih,List.map_cons,List.sum_cons,Nat.add_mul]
/-- the lists of a phase that goes on: all are full, and come of the old items O and the marked ones M -/
structure PhI (size:Nat) (O M:List Int) (h:HL):Prop where
  mg:MgI size M h
  full:∀ p∈h,p.1.length=size
  olt:O.Pairwise (·<·)
  olen:O.length=size
  sub:∀ p∈h,∀ y∈p.1,y∈M∨y∈O
  ex:∀ a b,a∈O→b∈O→a ∉ M→b ∉ M→∀ f,SF h (fun x=>f (swL a b x))=SF h f
theorem PhI.start {size:Nat} {O:List Int} {h:HL} (H:MgI size [] h) (e:h=[(O,720)]) (hl:O.length=size):PhI size O [] h:=by
  subst e
  have h1:=H.ok.all (O,720) (by simp)
  refine ⟨H,fun p hp=>by rw [List.mem_singleton] at hp;subst hp;exact hl,h1.lt,hl,fun p hp y hy=>by rw [List.mem_singleton] at hp;subst hp;exact .inr hy,fun a b ha hb _ _ f => ?_⟩
  simp only [SF,List.map_cons,List.map_nil]
  rw [swL_id h1.lt ha hb]
theorem parts_SF {size:Nat} {M:List Int} {item:Int} {p:List Int×Nat} (h1:1≤size) (h2:size≤6) (hM:M.Pairwise (·<·)) (hlt:M.length<size) (hp:LQ size M p) (hl:p.1.length=size) (f:List Int→Nat):(size-M.length)*SF (partsH size item M p) f=nxtF (size-M.length) item M f p.1*p.2:=by
  obtain ⟨hdv,-⟩:=ffl_div (N:=p.2) h1 h2 hlt hp.dv
  unfold partsH nxtF
  split
  · rw [SF_cons];simp [SF,Nat.mul_assoc]
  · rw [if_neg (by omega)]
    have hol:=opn_len hp.lt hM hp.sub
    have hon:(opn p.1 M).length=size-M.length:=by omega
    rw [map_mul,hon,Nat.mul_comm,Nat.mul_assoc,Nat.div_mul_cancel hdv]
theorem all_SF {size:Nat} {M:List Int} {item:Int} (f:List Int→Nat) {d:Nat} {g:List Int→Nat}:∀ {h:HL},(∀ p∈h,d*SF (partsH size item M p) f=g p.1*p.2)→d*SF (allH size item M h) f=SF h g
  | [],_=>by simp [allH,SF]
  | p::h,hp=>by
    show d*SF (partsH size item M p++allH size item M h) f=_
    rw [SF_app,Nat.mul_add,hp p (by simp),all_SF f fun q hq=>hp q (by simp [hq]),SF_cons]
theorem step_SF {size:Nat} {O M:List Int} {item:Int} {h:HL} (h1:1≤size) (h2:size≤6) (H:PhI size O M h) (hlt:M.length<size) (f:List Int→Nat):(size-M.length)*SF (stepH size item M h) f=SF h (nxtF (size-M.length) item M f):=by
  unfold stepH
  rw [SF_gains]
  have e:SF [] f=0:=rfl
  rw [e,Nat.zero_add]
  exact all_SF f fun p hp=>parts_SF h1 h2 H.mg.lt hlt (H.mg.ok.all p hp) (H.full p hp) f
theorem nxt_sw {a b item:Int} {M x:List Int} {d:Nat} (hx:x.Pairwise (·<·)) (ha:a ∉ M) (hb:b ∉ M) (hia:item≠a) (hib:item≠b) (f:List Int→Nat):nxtF d item M (fun x=>f (swL a b x)) x=nxtF d item M f (swL a b x):=by
  unfold nxtF
  have hm:item∈swL a b x↔item∈x:=by rw [swL_mem,sw_fix hia hib]
  by_cases h:item∈x
  · rw [if_pos h,if_pos (hm.2 h)]
  · rw [if_neg h,if_neg fun h3=>h (hm.1 h3)]
    have e:(opn x M).map (fun y=>f (swL a b (putL (wo x y) item)))=((opn x M).map (sw a b)).map fun y=>f (putL (wo (swL a b x) y) item):=by
      rw [List.map_map]
      exact List.map_congr_left fun y _=>by rw [put_sw hx hia hib];rfl
    rw [e]
    exact perm_sum (opn_sw hx ha hb)
theorem PhI.next {size:Nat} {O M:List Int} {item:Int} {h:HL} (h1:1≤size) (h2:size≤6) (H:PhI size O M h) (hi:item ∉ M) (hlt:M.length<size):PhI size O (putL M item) (stepH size item M h):=by
  have hpn:=fun p hp=>parts_new h1 h2 H.mg.lt hi hlt (H.mg.ok.all p hp) (H.full p hp)
  have hgm:∀ {Q:List Int×Nat→Prop},(∀ x m n,Q (x,m)→Q (x,n)→Q (x,m+n))→(∀ p∈h,∀ q∈partsH size item M p,Q q)→∀ q∈stepH size item M h,Q q:=fun {Q} hq ha =>
    (OkH.gains (Q:=Q) hq (OkH.nil Q) fun q hq'=>by obtain ⟨p,hp,hq'⟩:=all_mem hq';exact ha p hp q hq').all
  refine ⟨step_new h1 h2 H.mg hi hlt,hgm (fun _ _ _ h _=>h) fun p hp q hq=>((hpn p hp).1 q hq).2,H.olt,H.olen,hgm (Q:=fun q=>∀ y∈q.1,y∈putL M item∨y∈O) (fun _ _ _ h _=>h) fun p hp q hq y hy => ?_,fun a b ha hb hna hnb f => ?_⟩
  · unfold partsH at hq
    split at hq
    · rw [List.mem_singleton] at hq
      subst hq
      exact (H.sub _ hp y hy).imp (fun h=>putL_mem.2 (.inl h)) id
    · rw [if_neg (by have:=H.full p hp;omega),List.mem_map] at hq
      obtain ⟨z,hz,rfl⟩:=hq
      rcases putL_mem.1 hy with h3 | h3
      · exact (H.sub _ hp y (List.mem_filter.1 h3).1).imp (fun h=>putL_mem.2 (.inl h)) id
      · exact .inl (putL_mem.2 (.inr h3))
  · have ha':a ∉ M:=fun h=>hna (putL_mem.2 (.inl h))
    have hb':b ∉ M:=fun h=>hnb (putL_mem.2 (.inl h))
    have hia:item≠a:=fun e=>hna (putL_mem.2 (.inr e.symm))
    have hib:item≠b:=fun e=>hnb (putL_mem.2 (.inr e.symm))
    have e1:=step_SF (item:=item) h1 h2 H hlt f
    have e2:=step_SF (item:=item) h1 h2 H hlt fun x=>f (swL a b x)
    have e3:SF h (nxtF (size-M.length) item M fun x=>f (swL a b x))=SF h (nxtF (size-M.length) item M f):=by
      rw [← H.ex a b ha hb ha' hb' (nxtF (size-M.length) item M f)]
      exact SF_congr fun p hp=>nxt_sw (H.mg.ok.all p hp).lt ha' hb' hia hib f
    rw [e3,← e1] at e2
    exact Nat.eq_of_mul_eq_mul_left (by omega) e2
/-- old items that are not marked are lacked alike -/
theorem PhI.alike {size:Nat} {O M:List Int} {h:HL} (H:PhI size O M h) {a b:Int} (ha:a∈O) (hb:b∈O) (hna:a ∉ M) (hnb:b ∉ M):miss a h=miss b h:=by
  have:=H.ex a b ha hb hna hnb fun x=>if a∈x then 0 else 1
  unfold miss
  rw [← this]
  refine SF_congr fun p _ => ?_
  have e:a∈swL a b p.1↔b∈p.1:=by rw [swL_mem,sw_l]
  by_cases h1:b∈p.1
  · rw [if_pos h1,if_pos (e.2 h1)]
  · rw [if_neg h1,if_neg fun h2=>h1 (e.1 h2)]
theorem miss_sum (h:HL):∀ T:List Int,(T.map fun a=>miss a h).sum=SF h fun x=>(T.filter fun a=>decide (a ∉ x)).length
  | []=>by
    have:SF h (fun _=>0)=0:=by
      have:=SF_mul h 0 fun _=>1
      simpa using this
    simpa using this.symm
  | a::T=>by
    rw [List.map_cons,List.sum_cons,miss_sum h T]
    unfold miss
    rw [← SF_add]
    refine SF_congr fun p _ => ?_
    rw [List.filter_cons]
    by_cases h1:a∈p.1
    · rw [if_pos h1,if_neg (by simp only [decide_eq_true_eq];exact fun h2=>h2 h1)];omega
    · rw [if_neg h1,if_pos (decide_eq_true h1),List.length_cons];omega
/-- the share of lists that lack an old item that is not marked: c of the marked ones are not old -/
theorem PhI.stale {size:Nat} {O M:List Int} {h:HL} (H:PhI size O M h) {a:Int} (ha:a∈O) (hna:a ∉ M):(size-M.length+(opn M O).length)*miss a h=720*(opn M O).length∧(opn O M).length=size-M.length+(opn M O).length:=by
  have hMle:=H.mg.le
  have hoN:O.Nodup:=H.olt.imp fun h=>by omega
  -- the common part has the same length from both sides
  have hcom:(O.filter fun x=>M.contains x).length=(M.filter fun x=>O.contains x).length:=by
    have e:(O.filter fun x=>M.contains x)=(M.filter fun x=>O.contains x):=lt_ext (H.olt.filter _) (H.mg.lt.filter _) fun z=>by
      rw [List.mem_filter,List.mem_filter]
      simp [and_comm]
    rw [e]
  have h1:=split_len O M
  have h2:=split_len M O
  have hT:(opn O M).length=size-M.length+(opn M O).length:=by have:=H.olen;omega
  refine ⟨?_,hT⟩
  have hs:=miss_sum h (opn O M)
  have e1:(opn O M).map (fun b=>miss b h)=(opn O M).map fun _=>miss a h:=List.map_congr_left fun b hb=>by
    obtain ⟨h3,h4⟩:=opn_mem.1 hb
    exact (H.alike ha h3 hna h4).symm
  have e2:SF h (fun x=>((opn O M).filter fun b=>decide (b ∉ x)).length)=SF h fun _=>(opn M O).length:=SF_congr fun p hp=>by
    have h5:=H.mg.ok.all p hp
    have h6:=H.full p hp
    -- the list is M and some old ones
    have h7:=opn_len h5.lt H.mg.lt h5.sub
    have h8:((opn O M).filter fun b=>decide (b ∉ p.1)).length+(opn p.1 M).length=(opn O M).length:=by
      have h9:opn p.1 M=(opn O M).filter fun b=>p.1.contains b:=lt_ext (h5.lt.filter _) ((H.olt.filter _).filter _) fun z=>by
        rw [opn_mem,List.mem_filter,opn_mem]
        simp only [List.contains_eq_mem,decide_eq_true_eq]
        exact ⟨fun ⟨h10,h11⟩=>⟨⟨(H.sub p hp z h10).resolve_left h11,h11⟩,h10⟩,fun ⟨⟨_,h11⟩,h10⟩=>⟨h10,h11⟩⟩
      have h12:=split_len (opn O M) p.1
      rw [← h9] at h12
      have h13:opn (opn O M) p.1=(opn O M).filter fun b=>decide (b ∉ p.1):=by
        unfold opn
        refine List.filter_congr fun z _ => ?_
        simp
      rw [h13] at h12
      exact h12
    omega
  rw [e1,e2] at hs
  have e3:((opn O M).map fun _=>miss a h).sum=(opn O M).length*miss a h:=by
    generalize opn O M=T
    induction T with
    | nil=>simp
    | cons x T ih=>rw [List.map_cons,List.sum_cons,ih,List.length_cons,Nat.add_mul];omega
  have e4:SF h (fun _=>(opn M O).length)=720*(opn M O).length:=by
    have:=SF_mul h (opn M O).length fun _=>1
    simp only [Nat.mul_one] at this
    rw [this,SF_one,H.mg.sum,Nat.mul_comm]
  rw [e3,e4,hT] at hs
  exact hs
/-- a new item that is not old is in no list -/
theorem PhI.clean {size:Nat} {O M:List Int} {h:HL} (H:PhI size O M h) {a:Int} (ha:a ∉ O) (hna:a ∉ M):miss a h=720:=by
  unfold miss
  rw [SF_congr (g:=fun _=>1) fun p hp=>if_neg fun h1=>(H.sub p hp a h1).elim hna ha,SF_one,H.mg.sum]
end Go.Proofs.YtjblpcgkffhgfaaGreat
/- Random marking: the mean of its faults is at most the bound of its phases: the plain laws. Conditions: those that each names. -/
set_option linter.all false
set_option linter.unusedSimpArgs false
set_option linter.unusedVariables false
namespace Go.Proofs.YtjblpcgkffhgfaaGreat

theorem phL_step (size:Int) (xs:List Int) (i:Nat):phL size xs (i+1)=if phL size xs i=[]∨size<((rs (prt ((phL size xs i).getLastD 0) (i+1) xs)).length:Int) then phL size xs i++[i] else phL size xs i:=rfl
theorem phL_up {size:Int} {xs:List Int} {i:Nat}:∀ {k:Nat},i+1≤k→(i∈phL size xs k↔i∈phL size xs (i+1))
  | 0,h=>by omega
  | k+1,h=>by
    rcases Nat.lt_or_ge i k with h1 | h1
    · rw [← phL_up (k:=k) (by omega),phL_step size xs k]
      split
      · rw [List.mem_append,List.mem_singleton]
        exact ⟨fun h2=>h2.elim id fun h3=>by omega,.inl⟩
      · exact Iff.rfl
    · obtain rfl:k=i:=by omega
      exact Iff.rfl
theorem phL_all {size:Int} {xs:List Int} {x k:Nat} (hk:k≤xs.length):x∈phL size xs k↔x∈phL size xs xs.length∧x<k:=by
  constructor
  · intro h
    have h1:=phL_mem k x h
    exact ⟨(phL_up (by omega)).2 ((phL_up (by omega)).1 h),h1⟩
  · rintro ⟨h,h1⟩
    exact (phL_up (by omega)).2 ((phL_up (by omega)).1 h)
theorem last_max {a:Nat}:∀ {l:List Nat},l.Pairwise (·<·)→a∈l→(∀ x∈l,x≤a)→l.getLastD 0=a
  | [],_,h,_=>by simp at h
  | [b],_,h,_=>by simp at h;simp [h]
  | b::c::l,hl,h,hm=>by
    rw [List.pairwise_cons] at hl
    have h1:a∈c::l:=by
      rw [List.mem_cons] at h
      rcases h with rfl | h
      · have:=hl.1 c (by simp)
        have:=hm c (by simp)
        omega
      · exact h
    have:=last_max (l:=c::l) hl.2 h1 fun x hx=>hm x (by simp [hx])
    simpa using this
/-- within the i-th phase -/
structure InPh (size:Int) (xs:List Int) (i j:Nat):Prop where
  hi:i<(phL size xs xs.length).length
  lo:phB size xs i<j
  up:j≤phB size xs (i+1)
theorem phB_mem {size:Int} {xs:List Int} {i:Nat} (h:i<(phL size xs xs.length).length):phB size xs i∈phL size xs xs.length:=by
  rw [phB_in h,getD_inL h]
  exact List.getElem_mem _
theorem ph_le {size:Int} {xs:List Int} {i x:Nat} (hi:i<(phL size xs xs.length).length) (hx:x∈phL size xs xs.length) (hlt:x<phB size xs (i+1)):x≤phB size xs i:=by
  obtain ⟨t,ht,rfl⟩:=List.getElem_of_mem hx
  rw [phB_in hi,getD_inL hi]
  have hp:=phL_lt (size:=size) (xs:=xs) xs.length
  rcases Nat.lt_or_ge i t with h1 | h1
  · exfalso
    rw [phB_in (by omega),getD_inL (by omega)] at hlt
    rcases Nat.lt_or_ge (i+1) t with h2 | h2
    · have:=List.pairwise_iff_getElem.1 hp (i+1) t (by omega) ht h2
      omega
    · obtain rfl:t=i+1:=by omega
      omega
  · rcases Nat.lt_or_ge t i with h2 | h2
    · have:=List.pairwise_iff_getElem.1 hp t i ht hi h2
      omega
    · obtain rfl:t=i:=by omega
      exact Nat.le_refl _
theorem InPh.last {size:Int} {xs:List Int} {i j:Nat} (H:InPh size xs i j):(phL size xs j).getLastD 0=phB size xs i:=by
  have hjl:j≤xs.length:=Nat.le_trans H.up (phB_lt H.hi).2
  refine last_max (phL_lt j) ((phL_all hjl).2 ⟨phB_mem H.hi,H.lo⟩) fun x hx => ?_
  obtain ⟨h1,h2⟩:=(phL_all hjl).1 hx
  exact ph_le H.hi h1 (Nat.lt_of_lt_of_le h2 H.up)
theorem InPh.itm {size:Int} {xs:List Int} {i j:Nat} (H:InPh size xs i j):itm size xs j=rs (prt (phB size xs i) j xs):=by
  unfold Go.Proofs.YtjblpcgkffhgfaaGreat.itm
  rw [H.last]
theorem mkB_ph {size:Nat} {xs:List Int} {j:Nat} (hj:j<xs.length):mkB size xs j=if j∈phL size xs (j+1) then [] else itm size xs j:=by
  have e:(phL size xs j=[]∨(size:Int)<((rs (prt ((phL size xs j).getLastD 0) (j+1) xs)).length:Int))↔(j=0∨(size:Int)<((putL (itm size xs j) (xs.getD j 0)).length:Int)):=by
    rw [itm_put hj]
    refine or_congr ⟨fun h => ?_,fun h=>by subst h;rfl⟩ Iff.rfl
    rcases Nat.eq_zero_or_pos j with h0 | h0
    · exact h0
    · exact absurd h (phL_pos h0)
  unfold mkB
  by_cases h:j=0∨(size:Int)<((putL (itm size xs j) (xs.getD j 0)).length:Int)
  · rw [if_pos h,if_pos (by rw [phL_step,if_pos (e.2 h)];simp)]
  · rw [if_neg h,if_neg (by rw [phL_step,if_neg fun h1=>h (e.1 h1)];exact fun h1=>by have:=phL_mem j j h1;omega)]
theorem mkB_in {size:Nat} {xs:List Int} {i j:Nat} (hi:i<(phL size xs xs.length).length) (hlo:phB size xs i<j) (hhi:j<phB size xs (i+1)):mkB size xs j=itm size xs j:=by
  have hjl:j<xs.length:=Nat.lt_of_lt_of_le hhi (phB_lt hi).2
  rw [mkB_ph hjl,if_neg fun h => ?_]
  have h1:=((phL_all (by omega)).1 h).1
  have:=ph_le hi h1 hhi
  omega
theorem mkB_at {size:Nat} {xs:List Int} {i:Nat} (hi:i<(phL size xs xs.length).length):mkB size xs (phB size xs i)=[]:=by
  have h1:=phB_mem hi
  have h2:=phB_lt hi
  rw [mkB_ph (by omega),if_pos ((phL_all (by omega)).2 ⟨h1,by omega⟩)]
/-! ### the faults of a phase, times 60 -/
theorem d60 {D:Nat} (h1:1≤D) (h2:D≤6):D*(60 / D)=60:=by
  match D,h1,h2 with
  | 1,_,_=>rfl
  | 2,_,_=>rfl
  | 3,_,_=>rfl
  | 4,_,_=>rfl
  | 5,_,_=>rfl
  | 6,_,_=>rfl
theorem hN_le {a b:Nat} (h:a≤b) (hb:b≤6):hN a≤hN b:=by
  have:∀ b∈List.range 7,∀ a∈List.range 7,a≤b→hN a≤hN b:=by decide
  exact this b (by simp;omega) a (by simp;omega) h
theorem hN_pred {D:Nat} (h1:1≤D) (h2:D≤6):hN D=hN (D-1)+((60 / D:Nat):Int):=by
  match D,h1,h2 with
  | 1,_,_=>decide
  | 2,_,_=>decide
  | 3,_,_=>decide
  | 4,_,_=>decide
  | 5,_,_=>decide
  | 6,_,_=>decide
end Go.Proofs.YtjblpcgkffhgfaaGreat
/- Random marking: the mean of its faults is at most the bound of its phases: the plain laws. Conditions: those that each names. -/
set_option linter.all false
set_option linter.unusedSimpArgs false
set_option linter.unusedVariables false
namespace Go.Proofs.YtjblpcgkffhgfaaGreat

theorem putL_cnt {l:List Int} {n:Int} (h:n ∉ l) (p:Int→Bool):((putL l n).filter p).length=(l.filter p).length+if p n=true then 1 else 0:=by
  have e:(l.filter p).length=((l.take (plc n l)).filter p).length+((l.drop (plc n l)).filter p).length:=by
    rw [← List.length_append,← List.filter_append,List.take_append_drop]
  unfold putL
  rw [if_neg,List.filter_append,List.filter_append,List.length_append,List.length_append,e]
  · by_cases h1:p n=true
    · rw [List.filter_cons,if_pos h1,if_pos h1];simp;omega
    · rw [List.filter_cons,if_neg h1,if_neg h1];simp
  · rintro ⟨h1,h2⟩
    rw [getD_inL h1] at h2
    exact h (h2 ▸ List.getElem_mem _)
/-- how many marked ones are old -/
def stO (M O:List Int):Nat:=(M.filter fun x=>O.contains x).length
theorem st_split (M O:List Int):(opn M O).length+stO M O=M.length:=split_len M O
/-- what the faults of a phase may come to, times 60 -/
def pot (size:Nat) (O M:List Int) (C:Nat):Int:=720*(60*((opn M O).length:Int)+(C:Int)*(hN size-hN (size-stO M O)))
theorem pot_zero (size:Nat) (O:List Int) (C:Nat):pot size O [] C=0:=by
  unfold pot stO opn
  simp
theorem dm {D c mi C:Int} (q:Int) (hq:0≤q) (h:D*q=60) (h1:D*mi=720*c) (hC:c≤C):60*mi≤720*(C*q):=by
  have e:60*mi=720*(c*q):=by
    rw [← h,Int.mul_assoc,Int.mul_comm q mi,← Int.mul_assoc,h1,Int.mul_assoc]
  have:=Int.mul_le_mul_of_nonneg_right hC hq
  omega
theorem ph_step {size:Nat} {O M:List Int} {x:Int} {h:HL} (h1:1≤size) (h2:size≤6) (H:PhI size O M h) (hl:(putL M x).length≤size) {C:Nat} (hC:(opn (putL M x) O).length≤C):PhI size O (putL M x) (stepH size x M h)∧60*(faultH x h:Int)≤pot size O (putL M x) C-pot size O M C:=by
  by_cases hin:x∈M
  · have e1:=putL_in H.mg.lt hin
    rw [e1,step_old _ H.mg hin]
    refine ⟨H,?_⟩
    have e2:faultH x h=0:=by
      rw [fault_miss]
      unfold miss
      rw [SF_congr (g:=fun _=>0) fun p hp=>if_pos ((H.mg.ok.all p hp).sub x hin)]
      have:=SF_mul h 0 fun _=>1
      simpa using this
    rw [e2]
    omega
  · have e1:=putL_new hin
    have hlt:M.length<size:=by omega
    refine ⟨H.next h1 h2 hin hlt,?_⟩
    have s1:=st_split M O
    have s2:=st_split (putL M x) O
    rw [fault_miss]
    by_cases hx:x∈O
    · have c1:stO (putL M x) O=stO M O+1:=by
        unfold stO
        rw [putL_cnt hin,if_pos (by simpa using hx)]
      have c2:(opn (putL M x) O).length=(opn M O).length:=by omega
      obtain ⟨k1,-⟩:=H.stale hx hin
      obtain ⟨D,hD⟩:∃ D,D=size-stO M O:=⟨_,rfl⟩
      have hD1:1≤D:=by omega
      have hD2:D≤6:=by omega
      have k2:size-M.length+(opn M O).length=D:=by omega
      have k3:size-stO (putL M x) O=D-1:=by omega
      rw [k2] at k1
      have k4:=d60 hD1 hD2
      have k5:=hN_pred hD1 hD2
      have k6:=dm (D:=(D:Int)) (c:=((opn M O).length:Int)) (mi:=(miss x h:Int)) (C:=(C:Int)) ((60 / D:Nat):Int) (Int.natCast_nonneg _) (by rw [← Int.natCast_mul,k4];rfl) (by rw [← Int.natCast_mul,k1,Int.natCast_mul];rfl) (by omega)
      unfold pot
      rw [k3,c2,← hD,k5]
      have e3:(C:Int)*(hN size-hN (D-1))=(C:Int)*(hN size-(hN (D-1)+((60 / D:Nat):Int)))+(C:Int)*((60 / D:Nat):Int):=by
        rw [← Int.mul_add]
        congr 1
        omega
      rw [e3]
      omega
    · have c1:stO (putL M x) O=stO M O:=by
        unfold stO
        rw [putL_cnt hin,if_neg (by simpa using hx)]
        rfl
      have k1:=H.clean hx hin
      unfold pot
      rw [c1,k1]
      omega
theorem ph_end {size:Nat} {O M:List Int} (h2:size≤6) (hM:M.length≤size) (hp:M.Pairwise (·<·)):pot size O M (opn M O).length≤720*mbT size (opn M O).length:=by
  have s1:=st_split M O
  have h3:=hN_le (a:=(opn M O).length) (b:=size-stO M O) (by omega) (by omega)
  unfold pot mbT
  have h4:((opn M O).length:Int)*(hN size-hN (size-stO M O))≤((opn M O).length:Int)*(hN size-hN (opn M O).length):=Int.mul_le_mul_of_nonneg_left (by omega) (by omega)
  have e:(hN size-hN (opn M O).length+60)*((opn M O).length:Int)=60*((opn M O).length:Int)+((opn M O).length:Int)*(hN size-hN (opn M O).length):=by
    rw [Int.add_mul,Int.mul_comm (hN size-_)]
    omega
  rw [e]
  omega
end Go.Proofs.YtjblpcgkffhgfaaGreat
/- Random marking: the mean of its faults is at most the bound of its phases, joined: the plain laws. Conditions: those that each names. -/
set_option linter.all false
set_option linter.unusedSimpArgs false
set_option linter.unusedVariables false
namespace Go.Proofs.YtjblpcgkffhgfaaGreat

theorem hR_succ (size:Nat) (xs:List Int) (j:Nat):hR size xs (j+1)=stepH size (xs.getD j 0) (mkB size xs j) (hR size xs j):=rfl
theorem fR_succ (size:Nat) (xs:List Int) (j:Nat):fR size xs (j+1)=fR size xs j+faultH (xs.getD j 0) (hR size xs j):=rfl
/-- the items of a phase are full where a next one begins -/
theorem own_full {size:Nat} {xs:List Int} (h1:1≤size) (h2:size≤6) {i:Nat} (hi:i+1<(phL size xs xs.length).length):(ownP size xs i).length=size:=by
  have h3:=phB_lt (size:=(size:Int)) (xs:=xs) (i:=i+1) hi
  have h4:=phB_lt (size:=(size:Int)) (xs:=xs) (i:=i) (by omega)
  have hj:phB size xs (i+1)<xs.length:=by omega
  have h5:phB size xs (i+1)∈phL size xs (phB size xs (i+1)+1):=(phL_all (by omega)).2 ⟨phB_mem hi,by omega⟩
  have h6:=(mg_inv (size:=size) (xs:=xs) h1 h2 (phB size xs (i+1)) (by omega)).le
  rw [← itm_own (by omega)]
  rw [phL_step] at h5
  split at h5
  · rename_i h7
    rcases h7 with h7 | h7
    · exact absurd h7 (phL_pos (by omega))
    · rw [← itm_put hj] at h7
      have h8:(putL (itm size xs (phB size xs (i+1))) (xs.getD (phB size xs (i+1)) 0)).length≤(itm size xs (phB size xs (i+1))).length+1:=by
        by_cases h9:xs.getD (phB size xs (i+1)) 0∈itm size xs (phB size xs (i+1))
        · rw [putL_in (itm_lt _ _ _) h9];omega
        · rw [putL_new h9];exact Nat.le_refl _
      omega
  · have:=phL_mem _ _ h5
    omega
theorem itm_sub {size:Nat} {xs:List Int} {i j:Nat} (hi:i<(phL size xs xs.length).length) (hlo:phB size xs i<j) (hhi:j≤phB size xs (i+1)):∀ y∈itm size xs j,y∈ownP size xs i:=fun y hy=>by
  rw [InPh.itm ⟨hi,hlo,hhi⟩,rs_mem] at hy
  unfold ownP
  rw [rs_mem]
  unfold prt at hy ⊢
  have e:xs.take j=(xs.take (phB size xs (i+1))).take j:=by rw [List.take_take,Nat.min_eq_left hhi]
  rw [e,List.drop_take] at hy
  exact List.mem_of_mem_take hy
theorem opn_mono {l m O:List Int} (hl:l.Pairwise (·<·)) (h:∀ y∈l,y∈m):(opn l O).length≤(opn m O).length :=
  nd_len ((hl.filter _).imp fun h=>by omega) fun y hy=>by
    rw [opn_mem] at hy ⊢
    exact ⟨h y hy.1,hy.2⟩
/-- within a later phase -/
theorem ph_in {size:Nat} {xs:List Int} (h1:1≤size) (h2:size≤6) {i:Nat} (hi:i+1<(phL size xs xs.length).length):∀ d j,j=phB size xs (i+1)+d+1→j≤phB size xs (i+1+1)→PhI size (ownP size xs i) (itm size xs j) (hR size xs j)∧60*(fR size xs j:Int)≤60*(fR size xs (phB size xs (i+1)):Int)+pot size (ownP size xs i) (itm size xs j) (opn (ownP size xs (i+1)) (ownP size xs i)).length
  | 0,j,hj,hhi=>by
    obtain ⟨s,hs⟩:∃ s,s=phB (size:Int) xs (i+1):=⟨_,rfl⟩
    have h3:=phB_lt (size:=(size:Int)) (xs:=xs) (i:=i+1) hi
    have hsl:s<xs.length:=by omega
    have ef:=own_full h1 h2 hi
    have em:=itm_own (size:=(size:Int)) (xs:=xs) (i:=i) (by omega)
    have hm:=mg_inv (size:=size) (xs:=xs) h1 h2 s (by omega)
    have k0:=mkB_at hi
    rw [← hs] at em k0 hj ⊢
    rw [em] at hm
    have hst:=PhI.start (hm.reset ef) (hm.all ef) ef
    subst hj
    have ei:=itm_mkB (size:=size) hsl
    rw [k0] at ei
    have hsub:=itm_sub (size:=size) hi (j:=s+1) (by omega) (by omega)
    have hC:=opn_mono (O:=ownP size xs i) (itm_lt size xs (s+1)) hsub
    have hle:=(mg_inv (size:=size) (xs:=xs) h1 h2 (s+1) (by omega)).le
    rw [Nat.add_zero]
    rw [ei] at hC hle ⊢
    obtain ⟨g1,g2⟩:=ph_step h1 h2 hst hle hC
    rw [hR_succ,fR_succ,k0]
    refine ⟨g1,?_⟩
    rw [pot_zero] at g2
    omega
  | d+1,j,hj,hhi=>by
    obtain ⟨t,rfl⟩:∃ t,j=t+1:=⟨phB size xs (i+1)+d+1,by omega⟩
    have h3:=phB_lt (size:=(size:Int)) (xs:=xs) (i:=i+1) hi
    obtain ⟨ih1,ih2⟩:=ph_in (size:=size) (xs:=xs) h1 h2 hi d t (by omega) (by omega)
    have htl:t<xs.length:=by omega
    have k0:=mkB_in (size:=size) (xs:=xs) (j:=t) hi (by omega) (by omega)
    have ei:=itm_mkB (size:=size) htl
    rw [k0] at ei
    have hsub:=itm_sub (size:=size) hi (j:=t+1) (by omega) (by omega)
    have hC:=opn_mono (O:=ownP size xs i) (itm_lt size xs (t+1)) hsub
    have hle:=(mg_inv (size:=size) (xs:=xs) h1 h2 (t+1) (by omega)).le
    rw [ei] at hC hle ⊢
    obtain ⟨g1,g2⟩:=ph_step h1 h2 ih1 hle hC
    rw [hR_succ,fR_succ,k0]
    exact ⟨g1,by omega⟩
/-- within the first phase -/
theorem ph_first {size:Nat} {xs:List Int} (h1:1≤size) (h2:size≤6) (hi:0<(phL size xs xs.length).length) (h0:phB size xs 0=0):∀ j,j≤phB size xs 1→fR size xs j≤720*(itm size xs j).length
  | 0,_=>by simp [fR]
  | j+1,h=>by
    have h3:=phB_lt (size:=(size:Int)) (xs:=xs) (i:=0) hi
    have h4:phB (size:Int) xs (0+1)=phB (size:Int) xs 1:=rfl
    have hjl:j<xs.length:=by omega
    have ih:=ph_first (size:=size) (xs:=xs) h1 h2 hi h0 j (by omega)
    have hm:=mg_inv (size:=size) (xs:=xs) h1 h2 j (by omega)
    have k0:mkB size xs j=itm size xs j:=by
      rcases Nat.eq_zero_or_pos j with rfl | hj
      · rw [itm_zero,← h0]
        exact mkB_at hi
      · exact mkB_in hi (by omega) (by omega)
    have ei:=itm_mkB (size:=size) hjl
    rw [ei,k0,fR_succ]
    by_cases hin:xs.getD j 0∈itm size xs j
    · rw [putL_in hm.lt hin]
      have e2:faultH (xs.getD j 0) (hR size xs j)=0:=by
        rw [fault_miss]
        unfold miss
        rw [SF_congr (g:=fun _=>0) fun p hp=>if_pos ((hm.ok.all p hp).sub _ hin)]
        have:=SF_mul (hR size xs j) 0 fun _=>1
        simpa using this
      omega
    · rw [putL_new hin]
      have:=faultH_le (xs.getD j 0) (hR size xs j)
      rw [hm.sum] at this
      omega
theorem hN_self {a b:Nat} (h:a≤b) (hb:b≤6):60*(a:Int)≤mbT b a:=by
  have h1:=hN_le h hb
  unfold mbT
  have:(60:Int)*(a:Int)≤(hN b-hN a+60)*(a:Int):=Int.mul_le_mul_of_nonneg_right (by omega) (by omega)
  exact this
theorem phB_zero {size:Int} {xs:List Int} (h:0<xs.length):phB size xs 0=0∧0<(phL size xs xs.length).length:=by
  have h1:=List.length_pos_iff.2 (phL_pos (size:=size) (xs:=xs) h)
  have h2:0∈phL size xs xs.length:=(phL_up (k:=xs.length) (i:=0) (by omega)).2 (by rw [phL_step,if_pos (.inl rfl)];simp)
  refine ⟨?_,h1⟩
  have h3:=phB_in (size:=size) (xs:=xs) h1
  obtain ⟨t,ht,ht2⟩:=List.getElem_of_mem h2
  rcases Nat.eq_zero_or_pos t with rfl | h4
  · rw [h3,getD_inL h1,ht2]
  · have:=List.pairwise_iff_getElem.1 (phL_lt (size:=size) (xs:=xs) xs.length) 0 t h1 ht h4
    omega
/-- the mean of the faults of the first k phases is at most their bound -/
theorem fR_mbS {size:Nat} {xs:List Int} (h1:1≤size) (h2:size≤6) (hx:0<xs.length):∀ k,k≤(phL size xs xs.length).length→60*(fR size xs (phB size xs k):Int)≤720*mbS size xs k
  | 0,_=>by
    rw [(phB_zero hx).1]
    simp [fR,mbS]
  | 1,h=>by
    obtain ⟨h0,hi⟩:=phB_zero (size:=(size:Int)) hx
    have h3:=ph_first h1 h2 hi h0 (phB size xs 1) (Nat.le_refl _)
    have h4:itm (size:Int) xs (phB size xs 1)=ownP size xs 0:=itm_own hi
    rw [h4] at h3
    have h5:=ownP_size (size:=(size:Int)) (xs:=xs) (by omega) hi
    have h6:=hN_self (a:=(ownP (size:Int) xs 0).length) (b:=size) (by omega) h2
    have h7:opn (ownP (size:Int) xs 0) (prvP (size:Int) xs 0)=ownP (size:Int) xs 0:=by
      unfold opn prvP
      rw [List.filter_eq_self]
      simp
    simp only [mbS,Int.toNat_natCast]
    rw [h7]
    omega
  | k+2,h=>by
    have ih:=fR_mbS (size:=size) (xs:=xs) h1 h2 hx (k+1) (by omega)
    have hi:k+1<(phL size xs xs.length).length:=by omega
    have h3:=phB_lt (size:=(size:Int)) (xs:=xs) (i:=k+1) hi
    obtain ⟨-,h4⟩:=ph_in h1 h2 hi (phB size xs (k+2)-phB size xs (k+1)-1) (phB size xs (k+2)) (by have:phB (size:Int) xs (k+1+1)=phB (size:Int) xs (k+2):=rfl;omega) (Nat.le_refl _)
    have e:itm (size:Int) xs (phB size xs (k+2))=ownP size xs (k+1):=itm_own hi
    rw [e] at h4
    have h5:=ownP_size (size:=(size:Int)) (xs:=xs) (by omega) hi
    have h6:=ph_end (O:=ownP (size:Int) xs k) (M:=ownP size xs (k+1)) h2 (by omega) (rs_lt _)
    have e3:mbS (size:Int) xs (k+2)=mbS (size:Int) xs (k+1)+mbT size (opn (ownP size xs (k+1)) (ownP size xs k)).length:=rfl
    rw [e3]
    omega
/-- the mean of the faults is at most the bound -/
theorem fR_bound {size:Nat} {xs:List Int} (h1:1≤size) (h2:size≤6):60*(fR size xs xs.length:Int)≤720*mbS size xs (phL size xs xs.length).length:=by
  rcases Nat.eq_zero_or_pos xs.length with h | h
  · obtain rfl:xs=[]:=List.length_eq_zero_iff.1 h
    simp [fR,mbS,phL]
  · have:=fR_mbS h1 h2 h _ (Nat.le_refl _)
    rwa [phB_end] at this
end Go.Proofs.YtjblpcgkffhgfaaGreat
/- Random marking: its mean of faults is at least the fewest: the plain laws. Conditions: those that each names. -/
set_option linter.all false
set_option linter.unusedSimpArgs false
set_option linter.unusedVariables false
namespace Go.Proofs.YtjblpcgkffhgfaaGreat

theorem putL_perm {l:List Int} {n:Int} (h:n ∉ l):(putL l n).Perm (n::l):=by
  unfold putL
  rw [if_neg]
  · have e:n::l=n::(l.take (plc n l)++l.drop (plc n l)):=by rw [List.take_append_drop]
    rw [e,List.append_assoc]
    exact List.perm_middle
  · rintro ⟨h1,h2⟩
    rw [getD_inL h1] at h2
    exact h (h2 ▸ List.getElem_mem _)
theorem lt_nd {l:List Int} (h:l.Pairwise (·<·)):l.Nodup:=h.imp fun h=>by omega
theorem wo_erase {x:List Int} (h:x.Pairwise (·<·)) (y:Int):wo x y=x.erase y:=by
  rw [(lt_nd h).erase_eq_filter]
  unfold wo
  refine List.filter_congr fun z _ => ?_
  by_cases e:z=y<;>simp [e]
/-- what a part costs on is what its list costs, but for the fault -/
theorem part_pl {size:Nat} {item:Int} {m:List Int} {p q:List Int×Nat} {r:List Int} {n:Nat} (hp:p.1.Pairwise (·<·)) (hq:q∈partsH size item m p) (h:Pl size r q.1 n):Pl size (item::r) p.1 (n+if item∈p.1 then 0 else 1):=by
  unfold partsH at hq
  split at hq
  · rename_i hin
    rw [List.mem_singleton] at hq
    subst hq
    rw [if_pos hin]
    exact .hit hin h
  · rename_i hin
    rw [if_neg hin]
    split at hq
    · rename_i hlt
      rw [List.mem_singleton] at hq
      subst hq
      exact .in_ hin hlt (h.perm (putL_perm hin))
    · rw [List.mem_map] at hq
      obtain ⟨y,hy,rfl⟩:=hq
      have hy2:=(opn_mem.1 hy).1
      refine .out hin hy2 ?_
      have h1:item ∉ wo p.1 y:=fun h=>hin (List.mem_filter.1 h).1
      have:=h.perm (putL_perm h1)
      rwa [wo_erase hp] at this
theorem part_sum {size:Nat} {item:Int} {m:List Int} {p:List Int×Nat} (h:item ∉ p.1→¬ p.1.length<size→0<(opn p.1 m).length∧(opn p.1 m).length ∣ p.2):sumH (partsH size item m p)=p.2:=by
  unfold partsH
  split
  · simp [sumH]
  · rename_i hin
    split
    · simp [sumH]
    · rename_i hlt
      obtain ⟨h1,h2⟩:=h hin hlt
      rw [map_sum]
      exact Nat.mul_div_cancel' h2
section
variable {size:Nat} {f:List Int→List Int→Int}
/-- what is left to pay, summed -/
theorem SF_part {a:Nat} {g:List Int→Nat}:∀ {l:HL},(∀ q∈l,a≤g q.1)→a*sumH l≤SF l g
  | [],_=>by simp [sumH,SF]
  | q::l,h=>by
    rw [sumH_cons,SF_cons,Nat.mul_add]
    have h1:=Nat.mul_le_mul_right q.2 (h q (by simp))
    have h2:=SF_part (a:=a) (g:=g) (l:=l) fun q hq=>h q (by simp [hq])
    omega
theorem SF_step {item:Int} {m:List Int} {g g':List Int→Nat}:∀ {h:HL},(∀ p∈h,g p.1*p.2≤(if item∈p.1 then 0 else 1)*p.2+SF (partsH size item m p) g')→SF h g≤miss item h+SF (allH size item m h) g'
  | [],_=>by simp [SF,allH]
  | p::h,hp=>by
    have h1:=hp p (by simp)
    have h2:=SF_step (g:=g) (h:=h) fun q hq=>hp q (by simp [hq])
    have e:allH size item m (p::h)=partsH size item m p++allH size item m h:=rfl
    unfold miss at h2 ⊢
    rw [e,SF_app,SF_cons,SF_cons]
    omega
theorem SF_next (h1:1≤size) (h2:size≤6) (hf:FarOK f) {xs:List Int} {j:Nat} (hj:j<xs.length):SF (hR size xs j) (fun c=>grC size f (xs.drop j) c)≤faultH (xs.getD j 0) (hR size xs j)+SF (hR size xs (j+1)) (fun c=>grC size f (xs.drop (j+1)) c):=by
  have H:=rq_ok h1 h2 hj
  have HM:=mg_inv (size:=size) (xs:=xs) h1 h2 j (by omega)
  have HN:=mg_inv (size:=size) (xs:=xs) h1 h2 (j+1) (by omega)
  have e0:SF (hR size xs (j+1)) (fun c=>grC size f (xs.drop (j+1)) c)=SF (allH size (xs.getD j 0) (mkB size xs j) (hR size xs j)) (fun c=>grC size f (xs.drop (j+1)) c):=by
    rw [hR_succ]
    unfold stepH
    rw [SF_gains]
    simp [SF]
  have ed:xs.drop j=xs.getD j 0::xs.drop (j+1):=by
    rw [List.drop_eq_getElem_cons hj,getD_inL hj]
  rw [e0,fault_miss]
  refine SF_step fun p hp => ?_
  have hpl:=H.el p hp
  have hpk:=(HM.ok.all p hp).le
  have hs:=part_sum (H.dv p hp)
  have hq:∀ q∈partsH size (xs.getD j 0) (mkB size xs j) p,grC size f (xs.drop j) p.1≤(fun c=>grC size f (xs.drop (j+1)) c+if xs.getD j 0∈p.1 then 0 else 1) q.1:=fun q hq=>by
    have hql:q.1.length≤size:=by
      unfold partsH at hq
      split at hq
      · rw [List.mem_singleton] at hq;subst hq;exact hpk
      · rename_i hin
        split at hq
        · rename_i hlt
          rw [List.mem_singleton] at hq;subst hq
          rw [putL_new hin];exact hlt
        · rw [List.mem_map] at hq
          obtain ⟨y,hy,rfl⟩:=hq
          have h3:=wo_len hpl.2 (opn_mem.1 hy).1
          have h4:xs.getD j 0 ∉ wo p.1 y:=fun h=>hin (List.mem_filter.1 h).1
          simp only
          rw [putL_new h4]
          omega
    refine greedy_best h1 hf _ _ _ (lt_nd hpl.2) hpk ?_
    rw [ed]
    exact part_pl hpl.2 hq (greedy_pl h1 hf _ _ hql)
  have h3:=SF_part (g:=fun c=>grC size f (xs.drop (j+1)) c+if xs.getD j 0∈p.1 then 0 else 1) hq
  rw [hs,SF_add] at h3
  have h4:SF (partsH size (xs.getD j 0) (mkB size xs j) p) (fun _=>if xs.getD j 0∈p.1 then 0 else 1)=(if xs.getD j 0∈p.1 then 0 else 1)*p.2:=by
    have:=SF_mul (partsH size (xs.getD j 0) (mkB size xs j) p) (if xs.getD j 0∈p.1 then 0 else 1) fun _=>1
    simp only [Nat.mul_one] at this
    rw [this,SF_one,hs]
  rw [h4,Nat.add_comm] at h3
  exact h3
/-- the mean of the faults is at least the fewest -/
theorem fR_few (h1:1≤size) (h2:size≤6) (hf:FarOK f) {xs:List Int}:720*grC size f xs []≤fR size xs xs.length:=by
  have key:∀ j,j≤xs.length→720*grC size f xs []≤fR size xs j+SF (hR size xs j) (fun c=>grC size f (xs.drop j) c):=fun j=>by
    induction j with
    | zero=>intro _;simp [fR,hR,SF];omega
    | succ j ih =>
      intro hj
      have h3:=ih (by omega)
      have h4:=SF_next h1 h2 hf (xs:=xs) (j:=j) (by omega)
      rw [fR_succ]
      omega
  have h5:=key xs.length (Nat.le_refl _)
  have e:SF (hR size xs xs.length) (fun c=>grC size f (xs.drop xs.length) c)=0:=by
    rw [List.drop_length]
    have:=SF_mul (hR size xs xs.length) 0 fun _=>1
    simpa [grC] using this
  omega
end
end Go.Proofs.YtjblpcgkffhgfaaGreat
/- Random marking: the new items of all phases are at most twice the fewest faults: the plain laws. Conditions: those that each names. -/
set_option linter.all false
set_option linter.unusedSimpArgs false
set_option linter.unusedVariables false
namespace Go.Proofs.YtjblpcgkffhgfaaGreat

/-- a plan, cut behind some requests -/
theorem pl_cut {k:Nat}:∀ {a b c:List Int} {n:Nat},Pl k (a++b) c n→c.length≤k→∃ c' n1 n2,n1+n2=n∧Pl k b c' n2∧c'.length≤k∧(∀ y∈c',y∈c∨y∈a)∧∀ D:List Int,D.Nodup→(∀ y∈D,y∈a)→(opn D c).length≤n1
  | [],b,c,n,h,hc=>⟨c,0,n,by omega,h,hc,fun y hy => .inl hy,fun D _ hD=>by
    cases D with
    | nil=>simp [opn]
    | cons y D=>have:=hD y (by simp);simp at this⟩
  | x::a,b,c,n,h,hc=>by
    have done:∀ (c1:List Int) (m u:Nat),n=m+u→Pl k (a++b) c1 m→c1.length≤k→(∀ y∈c1,y∈c∨y=x)→(x∈c∨u=1)→∃ c' n1 n2,n1+n2=n∧Pl k b c' n2∧c'.length≤k∧(∀ y∈c',y∈c∨y∈x::a)∧∀ D:List Int,D.Nodup→(∀ y∈D,y∈x::a)→(opn D c).length≤n1:=fun c1 m u e hp hl hs hx=>by
      obtain ⟨c',n1,n2,g1,g2,g3,g4,g5⟩:=pl_cut hp hl
      refine ⟨c',n1+u,n2,by omega,g2,g3,fun y hy => ?_,fun D hD hm => ?_⟩
      · rcases g4 y hy with h1 | h1
        · exact (hs y h1).imp id fun h2=>by rw [h2];simp
        · exact .inr (by simp [h1])
      · have h3:=g5 (D.filter fun y=>decide (y≠x)) (hD.filter _) fun y hy=>by
          obtain ⟨h4,h5⟩:=List.mem_filter.1 hy
          have:=hm y h4
          rw [List.mem_cons] at this
          exact this.resolve_left (by simpa using h5)
        have h6:∀ y∈opn D c,y∈opn (D.filter fun y=>decide (y≠x)) c1∨y=x:=fun y hy=>by
          obtain ⟨h7,h8⟩:=opn_mem.1 hy
          by_cases h9:y=x
          · exact .inr h9
          · exact .inl (opn_mem.2 ⟨List.mem_filter.2 ⟨h7,by simpa using h9⟩,fun h10=>(hs y h10).elim h8 h9⟩)
        have hnd:(opn D c).Nodup:=hD.filter _
        rcases hx with hx | hx
        · have:=nd_len hnd fun y hy=>(h6 y hy).resolve_right fun h9=>by subst h9;exact (opn_mem.1 hy).2 hx
          omega
        · have:=nd_len (b:=x::opn (D.filter fun y=>decide (y≠x)) c1) hnd fun y hy=>by
            rw [List.mem_cons]
            exact (h6 y hy).symm
          rw [List.length_cons] at this
          omega
    rw [List.cons_append] at h
    cases h with
    | hit h1 p=>exact done c n 0 rfl p hc (fun y hy => .inl hy) (.inl h1)
    | out h1 he p =>
      refine done _ _ 1 rfl p ?_ (fun y hy => ?_) (.inr rfl)
      · rw [List.length_cons,List.length_erase_of_mem he]
        have:=List.length_pos_of_mem he
        omega
      · rw [List.mem_cons] at hy
        exact hy.symm.imp List.mem_of_mem_erase id
    | in_ h1 hk p =>
      refine done _ _ 1 rfl p (by rw [List.length_cons];omega) (fun y hy => ?_) (.inr rfl)
      rw [List.mem_cons] at hy
      exact hy.symm
/-- the new items of the first k phases -/
def clS (size:Int) (xs:List Int):Nat→Nat
  | 0=>0
  | k+1=>clS size xs k+(opn (ownP size xs k) (prvP size xs k)).length
theorem own_mem {size:Int} {xs:List Int} {i:Nat} {y:Int}:y∈ownP size xs i↔y∈prt (phB size xs i) (phB size xs (i+1)) xs:=by
  unfold ownP
  exact rs_mem
theorem prt_app {xs:List Int} {a b:Nat} (h1:a≤b):xs.drop a=prt a b xs++xs.drop b:=by
  unfold prt
  rw [List.drop_take]
  have e:xs.drop b=(xs.drop a).drop (b-a):=by rw [List.drop_drop];congr 1;omega
  rw [e,List.take_append_drop]
theorem len2 {l m:List Int}:(opn l m).length+(l.filter fun x=>m.contains x).length=l.length:=split_len l m
/-- what holds where the m-th phase begins -/
theorem cl_inv {size:Nat} {xs:List Int} (h1:1≤size) (h2:size≤6) (hx:0<xs.length) {n:Nat} (h:Pl size xs [] n):∀ m,m+1≤(phL size xs xs.length).length→∃ (c:List Int) (n' S f:Nat),Pl size (xs.drop (phB size xs (m+1))) c n'∧c.length≤size∧n'+S=n∧clS size xs (m+1)+f≤2*S∧(m+1<(phL size xs xs.length).length→∀ D:List Int,D.Nodup→(∀ y∈D,y∈c∧y ∉ ownP size xs m)→D.length≤f)
  | 0,hm=>by
    obtain ⟨h0,hi⟩:=phB_zero (size:=(size:Int)) hx
    have h3:=phB_lt (size:=(size:Int)) hi
    have e:xs=prt (phB size xs 0) (phB size xs 1) xs++xs.drop (phB size xs 1):=by
      have:=prt_app (xs:=xs) (Nat.le_of_lt h3.1)
      rw [h0,List.drop_zero] at this
      rw [h0]
      exact this
    rw [e] at h
    obtain ⟨c',n1,n2,g1,g2,g3,g4,g5⟩:=pl_cut h (by simp)
    have h5:=g5 (ownP size xs 0) (lt_nd (rs_lt _)) fun y hy=>own_mem.1 hy
    refine ⟨c',n2,n1,n1,g2,g3,by omega,?_,fun _ D hD hm2 => ?_⟩
    · have e2:clS (size:Int) xs (0+1)=(opn (ownP (size:Int) xs 0) []).length:=by
        simp [clS,prvP]
      rw [e2]
      omega
    · cases D with
      | nil=>simp
      | cons y D =>
        exfalso
        obtain ⟨h6,h7⟩:=hm2 y (by simp)
        rcases g4 y h6 with h8 | h8
        · simp at h8
        · exact h7 (own_mem.2 h8)
  | m+1,hm=>by
    obtain ⟨c,n',S,f,k1,k2,k3,k4,k5⟩:=cl_inv h1 h2 hx h m (by omega)
    have k5:=k5 (by omega)
    have hi:m+1<(phL size xs xs.length).length:=by omega
    have h3:=phB_lt (size:=(size:Int)) hi
    rw [prt_app (Nat.le_of_lt h3.1)] at k1
    obtain ⟨c',n1,n2,g1,g2,g3,g4,g5⟩:=pl_cut k1 k2
    have ho:=lt_nd (rs_lt (prt (phB (size:Int) xs (m+1)) (phB size xs (m+1+1)) xs))
    -- the new items: those that were held, and the others
    have ha:=g5 (opn (ownP size xs (m+1)) (ownP size xs m)) (ho.filter _) fun y hy=>own_mem.1 (opn_mem.1 hy).1
    have hb:=k5 ((opn (ownP size xs (m+1)) (ownP size xs m)).filter fun y=>c.contains y) ((ho.filter _).filter _) fun y hy=>by
      obtain ⟨h6,h7⟩:=List.mem_filter.1 hy
      exact ⟨by simpa using h7,(opn_mem.1 h6).2⟩
    have hc:=len2 (l:=opn (ownP (size:Int) xs (m+1)) (ownP size xs m)) (m:=c)
    refine ⟨c',n2,S+n1,n1,g2,g3,by omega,?_,fun hlast D hD hm2 => ?_⟩
    · have e:clS (size:Int) xs (m+1+1)=clS (size:Int) xs (m+1)+(opn (ownP (size:Int) xs (m+1)) (ownP size xs m)).length:=rfl
      rw [e]
      omega
    · have hful:=own_full (xs:=xs) h1 h2 hlast
      have hd:=g5 (ownP size xs (m+1)) ho fun y hy=>own_mem.1 hy
      have he:=len2 (l:=ownP (size:Int) xs (m+1)) (m:=c)
      have hDc:∀ y∈D,y∈c:=fun y hy=>by
        obtain ⟨h6,h7⟩:=hm2 y hy
        exact (g4 y h6).resolve_right fun h8=>h7 (own_mem.2 h8)
      have hnd:(D++(ownP (size:Int) xs (m+1)).filter fun y=>c.contains y).Nodup:=List.nodup_append.2 ⟨hD,ho.filter _,fun y hy z hz e=>(hm2 y hy).2 (e ▸ (List.mem_filter.1 hz).1)⟩
      have hl:=nd_len (b:=c) hnd fun y hy=>by
        rcases List.mem_append.1 hy with h6 | h6
        · exact hDc y h6
        · simpa using (List.mem_filter.1 h6).2
      rw [List.length_append] at hl
      omega
/-- the new items of all phases are at most twice the faults of any plan -/
theorem cl_few {size:Nat} {xs:List Int} (h1:1≤size) (h2:size≤6) {n:Nat} (h:Pl size xs [] n):clS size xs (phL size xs xs.length).length≤2*n:=by
  rcases Nat.eq_zero_or_pos xs.length with hx | hx
  · obtain rfl:xs=[]:=List.length_eq_zero_iff.1 hx
    simp [phL,clS]
  · obtain ⟨-,hi⟩:=phB_zero (size:=(size:Int)) hx
    obtain ⟨k,hk⟩:∃ k,(phL size xs xs.length).length=k+1:=⟨(phL size xs xs.length).length-1,by omega⟩
    obtain ⟨c,n',S,f,-,-,g1,g2,-⟩:=cl_inv h1 h2 hx h k (by omega)
    rw [hk]
    omega
/-- the bound is at most the harmonic number times the new items -/
theorem mbT_le {s c:Nat} (hc:c≤s) (hs:s≤6):mbT s c≤hN s*c:=by
  unfold mbT
  rcases Nat.eq_zero_or_pos c with rfl | h
  · simp
  · have h3:=hN_le (a:=1) (b:=c) h (by omega)
    have e:hN 1=60:=by decide
    exact Int.mul_le_mul_of_nonneg_right (by omega) (by omega)
theorem mbS_le {size:Nat} {xs:List Int} (h1:1≤size) (h2:size≤6):∀ k,k≤(phL size xs xs.length).length→mbS size xs k≤hN size*clS size xs k
  | 0,_=>by simp [mbS,clS]
  | k+1,h=>by
    have ih:=mbS_le (size:=size) (xs:=xs) h1 h2 k (by omega)
    have h3:=cnt_size (size:=(size:Int)) (xs:=xs) (by omega) (i:=k) (by omega)
    have h4:=mbT_le (s:=size) (c:=(opn (ownP (size:Int) xs k) (prvP size xs k)).length) (by omega) h2
    simp only [mbS,clS,Int.toNat_natCast,Int.natCast_add,Int.mul_add]
    omega
end Go.Proofs.YtjblpcgkffhgfaaGreat
/- Random marking: what its law asks of the numbers. The plain laws. Conditions: those that each names. -/
set_option linter.all false
set_option linter.unusedSimpArgs false
set_option linter.unusedVariables false
namespace Go.Proofs.YtjblpcgkffhgfaaGreat
open Go Go.RowKit Am

/-- every list holds the items of the last phase -/
theorem mu_has {n size:Int} {xs:List Int} (hb:szB n size xs=true) {i k:Nat} (hi:i<(mcK n size xs).length) (hk1:(phL size xs xs.length).getLastD 0≤k) (hk2:k<xs.length):((mcK n size xs).getD i []).contains (xs.getD k 0)=true:=by
  have hok:=sz_ok hb
  have e:=size_nat hb
  unfold mcK mgK at hi ⊢
  have hm:=mg_inv (size:=size.toNat) (xs:=xs) (by have:=hok.s1;omega) (by have:=hok.s2;omega) xs.length (Nat.le_refl _)
  rw [kH_len] at hi
  rw [kH_at hi,List.contains_iff_mem]
  refine (hm.ok.all _ (by rw [getD_inL hi];exact List.getElem_mem _)).sub _ ?_
  unfold itm
  rw [e,rs_mem]
  unfold prt
  rw [List.take_length,getD_inL hk2]
  rw [show xs[k]=(xs.drop ((phL size xs xs.length).getLastD 0))[k-(phL size xs xs.length).getLastD 0]'(by rw [List.length_drop];omega) by rw [List.getElem_drop];congr 1;omega]
  exact List.getElem_mem _
/-- the sum of the counts -/
theorem mu_cnt (size:Int) (xs:List Int):∀ k,(clnK size xs k).sum=(clS size xs k:Int)
  | 0=>rfl
  | k+1=>by
    rw [clnK_next,List.sum_append,mu_cnt size xs k]
    simp [clS,cntP]
theorem le_cross {a1 a2 b1 b2 A D B E:Int} (ha:a1*D=A*a2) (hb:b1*E=B*b2) (hD:0<D) (hE:0<E) (ha2:0<a2) (hb2:0<b2) (h:A*E≤B*D):a1*b2≤b1*a2:=by
  refine Int.le_of_mul_le_mul_right (a:=D*E) ?_ (Int.mul_pos hD hE)
  have e1:a1*b2*(D*E)=(A*E)*(a2*b2):=by
    rw [show a1*b2*(D*E)=(a1*D)*(b2*E) by ac_rfl,ha];ac_rfl
  have e2:b1*a2*(D*E)=(B*D)*(a2*b2):=by
    rw [show b1*a2*(D*E)=(b1*E)*(a2*D) by ac_rfl,hb];ac_rfl
  rw [e1,e2]
  exact Int.mul_le_mul_of_nonneg_right h (Int.le_of_lt (Int.mul_pos ha2 hb2))
/-- the law's last line -/
theorem mu_last {n size:Int} {xs:List Int} (hb:szB n size xs=true) :
    (mgF size.toNat xs).1*(mbV size xs).2≤(mbV size xs).1*(mgF size.toNat xs).2 ∧
    (mbV size xs).1*(mkFr (hN size.toNat) 60).2≤2*(mkFr (hN size.toNat) 60).1*(fewN size.toNat xs:Int)*(mbV size xs).2 ∧
    (fewN size.toNat xs:Int)*(mgF size.toNat xs).2≤(mgF size.toNat xs).1∧(clnV size xs).sum≤2*(fewN size.toNat xs:Int):=by
  have hok:=sz_ok hb
  have e:=size_nat hb
  have hs1:=hok.s1
  have hs2:=hok.s2
  have hlen:=hok.len
  generalize size.toNat=s at e ⊢
  subst e
  have h1:1≤s:=by omega
  have h2:s≤6:=by omega
  have k1:=fR_bound (xs:=xs) h1 h2
  have k2:=fR_few (f:=farC) h1 h2 far_ok (xs:=xs)
  have k3:=cl_few (xs:=xs) h1 h2 (greedy_pl h1 far_ok xs [] (by simp))
  have k4:=mbS_le (xs:=xs) h1 h2 _ (Nat.le_refl _)
  have k5:=fR_le (xs:=xs) h1 h2 xs.length (Nat.le_refl _)
  have k6:=mbS_bd (xs:=xs) hs1 hs2 _ (Nat.le_refl _)
  have k7:=phL_len (size:=(s:Int)) (xs:=xs) xs.length
  have iF:=fr7_is (N:=fR s xs xs.length) (by omega)
  have iB:IsFr (mbV s xs) (mbS s xs (phL s xs xs.length).length) 60:=isFr_small (by decide) (by decide) (by omega) (by omega)
  have iH:=fr_har s
  have hH:=hN_bd s
  have k8:(clnV s xs).sum=(clS s xs (phL (s:Int) xs xs.length).length:Int):=mu_cnt _ _ _
  have k9:(mbS s xs (phL (s:Int) xs xs.length).length)≤hN s*(2*(fewN s xs:Int)):=Int.le_trans k4 (Int.mul_le_mul_of_nonneg_left (by have:fewN s xs=grC s farC xs []:=rfl;omega) hH.1)
  refine ⟨le_cross iF.eq iB.eq (by decide) (by decide) iF.dpos iB.dpos (by omega),?_,?_,?_⟩
  · refine Int.le_of_mul_le_mul_right (a:=60) ?_ (by decide)
    have e1:=iB.eq
    have e2:=iH.eq
    generalize mbV s xs=B at e1 iB ⊢
    generalize mkFr (hN s) 60=Hf at e2 iH ⊢
    have e3:B.1*Hf.2*60=(mbS s xs (phL (s:Int) xs xs.length).length)*(B.2*Hf.2):=by
      rw [show B.1*Hf.2*60=(B.1*60)*Hf.2 by ac_rfl,e1];ac_rfl
    have e4:2*Hf.1*(fewN s xs:Int)*B.2*60=(hN s*(2*(fewN s xs:Int)))*(B.2*Hf.2):=by
      rw [show 2*Hf.1*(fewN s xs:Int)*B.2*60=2*(Hf.1*60)*(fewN s xs:Int)*B.2 by ac_rfl,e2];ac_rfl
    rw [e3,e4]
    exact Int.mul_le_mul_of_nonneg_right k9 (Int.le_of_lt (Int.mul_pos iB.dpos iH.dpos))
  · have e1:=iF.eq
    have e0:mgF s xs=fr7 (fR s xs xs.length):=rfl
    rw [e0]
    refine Int.le_of_mul_le_mul_right (a:=720) ?_ (by decide)
    rw [e1,show (fewN s xs:Int)*(fr7 (fR s xs xs.length)).2*720=(720*(fewN s xs:Int))*(fr7 (fR s xs xs.length)).2 by ac_rfl]
    exact Int.mul_le_mul_of_nonneg_right (by have:fewN s xs=grC s farC xs []:=rfl;omega) (Int.le_of_lt iF.dpos)
  · have:fewN s xs=grC s farC xs []:=rfl
    omega
end Go.Proofs.YtjblpcgkffhgfaaGreat
/- Random marking holds at most a hundred lists. Conditions: those that each names. -/
set_option linter.all false
set_option linter.unusedSimpArgs false
set_option linter.unusedVariables false
namespace Go.Proofs.YtjblpcgkffhgfaaGreat

theorem hR_in {size:Nat} {xs:List Int}:∀ j,j≤xs.length→∀ p∈hR size xs j,∀ y∈p.1,y∈xs
  | 0,_,p,hp,y,hy=>by
    simp only [hR,List.mem_singleton] at hp
    subst hp
    simp at hy
  | j+1,hj,p,hp,y,hy=>by
    have ih:=hR_in (size:=size) (xs:=xs) j (by omega)
    have hx:xs.getD j 0∈xs:=by rw [getD_inL (by omega)];exact List.getElem_mem _
    have key:∀ q∈stepH size (xs.getD j 0) (mkB size xs j) (hR size xs j),∀ y∈q.1,y∈xs:=(OkH.gains (Q:=fun q=>∀ y∈q.1,y∈xs) (fun _ _ _ h _=>h) (OkH.nil _) fun q hq=>by
      obtain ⟨p,hp,hq⟩:=all_mem hq
      intro y hy
      have h1:=ih p hp
      unfold partsH at hq
      split at hq
      · rw [List.mem_singleton] at hq
        subst hq
        exact h1 y hy
      · split at hq
        · rw [List.mem_singleton] at hq
          subst hq
          rcases putL_mem.1 hy with h2 | rfl
          · exact h1 y h2
          · exact hx
        · rw [List.mem_map] at hq
          obtain ⟨z,-,rfl⟩:=hq
          rcases putL_mem.1 hy with h2 | rfl
          · exact h1 y (List.mem_filter.1 h2).1
          · exact hx).all
    exact key p hp y hy
/-- all lists out of one -/
def subL:List Int→List (List Int)
  | []=>[[]]
  | a::l=>(subL l).map (a::·)++subL l
theorem subL_mem:∀ {l x:List Int},l.Pairwise (·<·)→x.Pairwise (·<·)→(∀ y∈x,y∈l)→x∈subL l
  | [],x,_,_,h=>by
    cases x with
    | nil=>simp [subL]
    | cons y x=>have:=h y (by simp);simp at this
  | a::l,x,hl,hx,h=>by
    rw [List.pairwise_cons] at hl
    unfold subL
    rw [List.mem_append,List.mem_map]
    cases x with
    | nil=>exact .inr (subL_mem hl.2 List.Pairwise.nil (by simp))
    | cons b x =>
      rw [List.pairwise_cons] at hx
      by_cases e:b=a
      · subst e
        refine .inl ⟨x,subL_mem hl.2 hx.2 fun y hy => ?_,rfl⟩
        have h1:=h y (by simp [hy])
        rw [List.mem_cons] at h1
        have:=hx.1 y hy
        exact h1.resolve_left (by omega)
      · refine .inr (subL_mem hl.2 (List.pairwise_cons.2 hx) fun y hy => ?_)
        have hb:=h b (by simp)
        rw [List.mem_cons] at hb
        have hbl:=hl.1 b (hb.resolve_left e)
        have h1:=h y hy
        rw [List.mem_cons] at h1 hy
        refine h1.resolve_left fun e2 => ?_
        subst e2
        rcases hy with hy | hy
        · exact e hy.symm
        · have:=hx.1 y hy
          omega
theorem subL_cnt:∀ s,s<9→((subL [0,1,2,3,4,5,6,7]).filter fun x=>decide (x.length=s)).length≤70:=by decide +kernel
theorem ndL_len:∀ {a b:List (List Int)},a.Nodup→(∀ y∈a,y∈b)→a.length≤b.length
  | [],_,_,_=>Nat.zero_le _
  | x::a,b,ha,hs=>by
    rw [List.nodup_cons] at ha
    have hx:=hs x (by simp)
    have h1:=ndL_len (a:=a) (b:=b.erase x) ha.2 fun y hy=>(List.mem_erase_of_ne (fun e=>ha.1 (by rw [← e];exact hy))).2 (hs y (by simp [hy]))
    rw [List.length_erase_of_mem hx] at h1
    have:=List.length_pos_of_mem hx
    rw [List.length_cons]
    omega
theorem hR_len {size:Nat} {xs:List Int} (h1:1≤size) (h2:size≤6) (hx:∀ x∈xs,0≤x∧x≤7):(hR size xs xs.length).length≤70:=by
  have hm:=mg_inv (size:=size) (xs:=xs) h1 h2 xs.length (Nat.le_refl _)
  rcases hm.full with hf | hf
  · have hn:((hR size xs xs.length).map (·.1)).Nodup:=by
      refine List.pairwise_map.2 (hm.ok.ord.imp fun {p q} h e => ?_)
      rw [e,lexB_irr] at h
      cases h
    have:=ndL_len hn (b:=(subL [0,1,2,3,4,5,6,7]).filter fun x=>decide (x.length=size)) fun y hy=>by
      obtain ⟨p,hp,rfl⟩:=List.mem_map.1 hy
      refine List.mem_filter.2 ⟨subL_mem (by decide) (hm.ok.all p hp).lt fun y hy => ?_,decide_eq_true (hf p hp)⟩
      have h3:=hx y (hR_in xs.length (Nat.le_refl _) p hp y hy)
      simp only [List.mem_cons,List.not_mem_nil,or_false]
      omega
    have h4:=subL_cnt size (by omega)
    rw [List.length_map] at this
    omega
  · rw [hf]
    simp
end Go.Proofs.YtjblpcgkffhgfaaGreat
/- Random marking: its probabilities have the sum 1. Conditions: those that each names. -/
set_option linter.all false
set_option linter.unusedSimpArgs false
set_option linter.unusedVariables false
namespace Go.Proofs.YtjblpcgkffhgfaaGreat
open Go Go.RowKit Am

theorem sumH_cast (h:HL):(h.map fun p=>(p.2:Int)).sum=(sumH h:Int):=by
  induction h with
  | nil=>rfl
  | cons p h ih=>rw [List.map_cons,List.sum_cons,ih,sumH_cons,Int.natCast_add]
theorem sumH_take (h:HL) (k:Nat):sumH (h.take k)≤sumH h:=by
  have:sumH h=sumH (h.take k++h.drop k):=by rw [List.take_append_drop]
  rw [this,sumH_app]
  omega
/-- the probabilities have the sum 1 -/
theorem mu_sum {n size:Int} {xs:List Int} (hb:szB n size xs=true):Does Tryz.prog 30 [.sl (.k 2 (mcO n size xs))] (.imm (.tup [frT (1,1),blT true])):=by
  have hok:=sz_ok hb
  have hm:=mg_inv (size:=size.toNat) (xs:=xs) (by have:=hok.s1;omega) (by have:=hok.s2;omega) xs.length (Nat.le_refl _)
  have hl:=hR_len (size:=size.toNat) (xs:=xs) (by have:=hok.s1;omega) (by have:=hok.s2;omega) fun x hx=>by have:=hok.all x hx;have:=hok.n2;omega
  unfold mcO mgO
  generalize hR size.toNat xs xs.length=h at hm hl
  have hs:=sumFracs_f 720 (by decide) (by decide) (h.map fun p=>fr7 p.2) (h.map fun p=>(p.2:Int)) (by simp) (by simp;omega) (fun k hk=>by
    rw [List.length_map] at hk
    rw [getD_inL (by simpa using hk),getD_inL (by simpa using hk),List.getElem_map,List.getElem_map]
    refine fr7_is ?_
    have:=mem_sum (List.getElem_mem hk)
    rw [hm.sum] at this
    omega) (fun k _=>by
    rw [← List.map_take,sumH_cast]
    have:=sumH_take h k
    rw [hm.sum] at this
    omega)
  rw [sumH_cast,hm.sum,List.map_map] at hs
  have e1:mkFr ((720:Nat):Int) 720=(1,1):=fr7_one
  rw [e1] at hs
  exact hs
end Go.Proofs.YtjblpcgkffhgfaaGreat
