/- Positions of games on the machine: where one lies in a list. Conditions: positions of two numbers. -/
import Derived.Test.YtnblieajjclipaaGreatOF
import Derived.Test.YtnblieajjclipaaGreatZGSC
set_option linter.all false
namespace Go.Proofs.YtnblieajjclipaaGreat
open Go Go.RowKit Am
theorem OE {l:List (List Int)} (h:∀ p∈l,p.length=2) {k:Nat} (hk:k<l.length):[(l.getD k []).getD 0 0,(l.getD k []).getD 1 0]=l[k]:=by
 rw [getD_in hk]
 have h2:=h _ (List.getElem_mem hk)
 match e:l[k],h2 with
 | [a,b],_=>rfl
theorem U0 (l:List (List Int)) (a b:Int) (hl:∀ p∈l,p.length=2):Does Tryz.prog 98 [.sl (.k 2 l),.tv (.agg [.b (.val (.int .i64 a)),.b (.val (.int .i64 b))])] (.imm (.int (fV l [a,b]))):=by
 refine aF Tryz.func98 rfl Tryz.ntmps98 aQ (fun _ _=>by kernel_rfl) rfl (Nat.le_of_ble_eq_true rfl) ?_
 intro M0 w0
 rw [Tryz.results98]
 (refine bY 0 rfl fun hf =>?_;simp only [xp,simprocAttr] at hf;simp only [xf,simprocAttr] at hf)
 refine ah ?_
 refine aA (α:=Nat) (fun k=>[(8,true,.int k)]) [0,3,6,7] (fun _=>[.box [.b (.val (.int .i64 a)),.b (.val (.int .i64 b))]]) (fun k=>k<=l.length/\∀ x∈l.take k,decide (x=[a,b])=false) (fun k=>l.length-k) 0 (by exact bW) ⟨Nat.zero_le _,by simp⟩ fun k hk =>?_
 obtain ⟨hk,hp⟩:=hk
 simp only [xr,simprocAttr]
 refine ah ?_
 refine aj amQ (fun hc =>?_) (fun hc =>?_)
 ·have hk':k<l.length:=by simpa using hc
  have h2:=OE hl hk'
  refine ah ?_
  refine aj amQ (fun hd =>?_) (fun hd =>?_)
  ·have hd:=of_decide_eq_true hd
   have e:fV l [a,b]=k:=ig hk' (by rw [← h2,hd];simp) hp
   refine ah ?_
   refine bJ ?_
   rw [e]
  ·have hd:=of_decide_eq_false hd
   refine ah ?_
   refine ⟨k+1,by omega,fun x hx' =>?_,by omega,.inl ?_⟩
   ·rw [List.take_succ_eq_append_getElem hk',List.mem_append,List.mem_singleton] at hx'
    rcases hx' with hx' | rfl
    ·exact hp x hx'
    ·rw [← h2];exact decide_eq_false fun e=>hd e.symm
   ·exact bW
 ·have hk':k=l.length:=by simp at hc;omega
  subst hk'
  rw [List.take_length] at hp
  have e:fV l [a,b] = -1:=gZ hp
  refine ah ?_
  refine bJ ?_
  rw [e]
theorem Ya (l:List (List Int)) (a b:Int) (hl:∀ p∈l,p.length=2):Does Tryz.prog 148 [.sl (.k 2 l),.tv (.agg [.b (.val (.int .i64 a)),.b (.val (.int .i64 b))])] (.imm (.int (sZ l [a,b]))):=by
 refine aF Tryz.func148 rfl Tryz.ntmps148 aQ (fun _ _=>by kernel_rfl) rfl (Nat.le_of_ble_eq_true rfl) ?_
 intro M0 w0
 rw [Tryz.results148]
 (refine bY 0 rfl fun hf =>?_;simp only [xp,simprocAttr] at hf;simp only [xf,simprocAttr] at hf)
 refine ah ?_
 refine aA (α:=Nat) (fun k=>[(5,true,.int k)]) [0,3] (fun _=>[.box [.b (.val (.int .i64 a)),.b (.val (.int .i64 b))]]) (fun k=>k<=l.length/\∀ x∈l.take k,decide (x=[a,b])=false) (fun k=>l.length-k) 0 (by exact bW) ⟨Nat.zero_le _,by simp⟩ fun k hk =>?_
 obtain ⟨hk,hp⟩:=hk
 simp only [xr,simprocAttr]
 refine ah ?_
 refine aj amQ (fun hc =>?_) (fun hc =>?_)
 ·have hk':k<l.length:=by
   by_cases h:(k:Int)<l.length
   ·omega
   ·rw [decide_eq_false h] at hc;cases hc
  rw [decide_eq_true (show (k:Int)<l.length by omega),OE hl hk'] at hc
  have hd:decide (l[k]=[a,b])=false:=by simpa using hc
  refine ah ?_
  refine ⟨k+1,by omega,fun x hx' =>?_,by omega,.inl ?_⟩
  ·rw [List.take_succ_eq_append_getElem hk',List.mem_append,List.mem_singleton] at hx'
   rcases hx' with hx' | rfl
   ·exact hp x hx'
   ·exact hd
  ·exact bW
 ·refine ah ?_
  refine bJ ?_
  by_cases h:k<l.length
  ·rw [decide_eq_true (show (k:Int)<l.length by omega),OE hl h] at hc
   have hd:decide (l[k]=[a,b])=true:=by simpa using hc
   have e:fV l [a,b]=k:=ig h hd hp
   unfold sZ
   rw [e,if_neg (by omega)]
  ·obtain rfl:k=l.length:=by omega
   rw [List.take_length] at hp
   have e:fV l [a,b] = -1:=gZ hp
   unfold sZ
   rw [e,if_pos (by omega)]
def gmO (q:GmT×Bool):List Ob:=bif q.2 then [] else [.box [.own 1,.own 2],.row 112 (.k 2 q.1.list),.row 101 (.kii 6 q.1.ch)]
def gmR (q:GmT×Bool):AV:=bif q.2 then .tup [.one (.b (.val (.pointer none))),.one (.b (.val (.bool false)))] else .tup [.one (.ptr 0 0),.one (.b (.val (.bool true)))]
def gmQ (m s:List (List Int)) (x:Int):GmT×Bool:=bif bH m s x [] then gm m s x.toNat else (⟨[],[]⟩,true)
theorem Qq {n l:Nat} {p:List Int} (h:Ea n l p):p.length=2:=by
 obtain ⟨_,_,rfl,_⟩:=h
 rfl
theorem Si {m s:List (List Int)} {x:Nat} (hp:bg m s=true) (hx:x<m.length) (h:(jq m s x).2=false):Does Tryz.prog 96 [prA m s,.int x] (.imm (.tup [.one (.b (.sl (.ii (jq m s x).1.list))),.one (.b (.sl (.ii (jq m s x).1.next))),.one (.b (.sl (.ii (jq m s x).1.grows))),.one (.b (.val (.bool true)))])):=by
 have:=Gy m s x hp hx
 unfold ZL at this
 rw [h] at this
 exact this
theorem RZ {m s:List (List Int)} {x:Nat} (hp:bg m s=true) (hx:x<m.length) (h:(jq m s x).2=true):Does Tryz.prog 96 [prA m s,.int x] (.imm (.tup [.one (.b (.val (.slice none 0 0))),.one (.b (.val (.slice none 0 0))),.one (.b (.val (.slice none 0 0))),.one (.b (.val (.bool false)))])):=by
 have:=Gy m s x hp hx
 unfold ZL at this
 rw [h] at this
 exact this
set_option maxHeartbeats 2000000 in
theorem J4 (m s:List (List Int)) (x:Int):bP Tryz.prog 45 [prA m s,.int x] [] [] (gmR (gmQ m s x)) (gmO (gmQ m s x)):=by
 refine aZ Tryz.func45 rfl Tryz.ntmps45 aQ (fun _ _=>by kernel_rfl) rfl rfl rfl ?_
 intro M0 w0 S φ0
 rw [Tryz.results45]
 refine ah ?_
 ((try refine Or.inl ?_);refine ⟨_,(Kv _ _ _),.inl rfl,?_⟩;refine amC ?_)
 refine ah ?_
 refine aj amQ (fun hc =>?_) (fun hc =>?_)
 ·have hc':bH m s x []=false:=by simpa using hc
  have hq:gmQ m s x=(⟨[],[]⟩,true):=by unfold gmQ;rw [hc'];rfl
  rw [hq]
  refine ah ?_
  (simp only [aC,aH];refine qL (vs:=[_,_]) [] rfl trivial rfl rfl rfl rfl ⟨rfl,rfl,trivial⟩ ?_;try rfl)
 have hc':bH m s x []=true:=by simpa using hc
 obtain ⟨hp,⟨y,rfl,hy⟩,-,-⟩:=qc hc'
 have hq:gmQ m s y=gm m s y:=by unfold gmQ;rw [hc',Int.toNat_natCast];rfl
 rw [hq]
 have hl:=bI hp
 refine ah ?_
 cases ho:(jq m s y).2
 ·((try refine Or.inl ?_);refine ⟨_,(Si hp hy ho),amF,?_⟩;refine amC ?_)
  have ht:=EM hp hy ho
  have hg0:gm m s y=lU m s (jq m s y).1 y 100 0:=by unfold gm;rw [ho];rfl
  rw [hg0]
  generalize (jq m s y).1=t at ht ho
  refine ah ?_
  refine aj amQ (fun hd =>?_) (fun hd =>?_)
  ·cases hd
  (refine amB ?_;refine rJ [false,false,true] ?_;refine amN ?_)
  (refine kJ 2 1 101 (.kii 6 []) rfl rfl rfl (by first | trivial | (intro _ h;cases h)) ?_;simp only [xr,simprocAttr])
  refine ah ?_
  refine aA (α:=Nat) (fun i=>[(11,true,.int i)]) [2,7,8,10] (fun i=>[.box [.b (.sl (.ii m)),.b (.sl (.ii s))],.row 112 (.k 2 (gmT m s t y i).list),.box [.own 1,.own 3],.row 101 (.kii 6 (gmT m s t y i).ch)]) (GmI m s t y) (fun i=>61-i) 0 (by exact dJ) (GmI.first m s t y) fun i hi =>?_
  have hile:=hi.le
  have hlen:=hi.len
  have hok:=vW ht hy i hi.lt
  have hcl:=hok.clen
  simp only [xr,simprocAttr]
  refine ah ?_
  refine aj amQ (fun he =>?_) (fun he =>?_)
  ·have he:=of_decide_eq_true he
   have hlt:i<(gmT m s t y i).list.length:=by omega
   obtain ⟨st,w,hpos,hst,hof,hsl,hwl⟩:=FX hok hlt
   have htl:=ht.nlen
   have htg:=ht.glen
   refine ah ?_
   rw [hpos]
   simp only [xr,simprocAttr]
   refine ah ?_
   refine aA (α:=Nat) (fun r=>[(69,true,.int r)]) [2,7,8,10,11,12,13,14,68] (fun r=>[.box [.b (.sl (.ii m)),.b (.sl (.ii s))],.row 112 (.k 2 (bC m s t i st w (gmT m s t y i).list r).1),.box [.own 1,.own 3],.row 101 (.kii 6 (gmT m s t y i).ch),.row 100 (.ki 6 (bC m s t i st w (gmT m s t y i).list r).2)]) (fun r=>r<=s.length) (fun r=>s.length-r) 0 (by exact dJ) (Nat.zero_le _) fun r hr =>?_
   have hmul:r*m.length<=4*4:=Nat.mul_le_mul (by omega) (by omega)
   have hal:=jW m s t i st w (gmT m s t y i).list r
   have ham:=uh ht hwl hok.el (i:=i) (st:=st) r hr
   simp only [xr,simprocAttr]
   refine ah ?_
   refine aj amQ (fun hd =>?_) (fun hd =>?_)
   ·have hd:=of_decide_eq_true hd
    have hr':r<s.length:=by omega
    have hrow:=kE hp r hr'
    have htw:=ht.row w hwl
    refine ah ?_
    ((try refine Or.inl ?_);refine ⟨_,(LD m s r hr' hrow (by omega)),amF,?_⟩;refine amC ?_)
    refine ah ?_
    refine aA (α:=Nat) (fun k=>[(77,true,.int k)]) [2,7,8,10,11,12,13,14,15,16,68,69,75,76] (fun k=>[.box [.b (.sl (.ii m)),.b (.sl (.ii s))],.row 112 (.k 2 (dV m s t i st w r (bC m s t i st w (gmT m s t y i).list r).1 ((srv s m.length r).take k)).1),.box [.own 1,.own 3],.row 101 (.kii 6 (gmT m s t y i).ch),.row 100 (.ki 6 (bC m s t i st w (gmT m s t y i).list r).2),.row 105 (.k 6 (dV m s t i st w r (bC m s t i st w (gmT m s t y i).list r).1 ((srv s m.length r).take k)).2)]) (fun k=>k<=(srv s m.length r).length) (fun k=>(srv s m.length r).length-k) 0 (by exact dJ) (Nat.zero_le _) fun k hk =>?_
    have hsl4:=uJ s m.length r
    have hrl:=uj m s t i st w r (bC m s t i st w (gmT m s t y i).list r).1 ((srv s m.length r).take k)
    rw [List.length_take] at hrl
    have hrm:∀ p∈(dV m s t i st w r (bC m s t i st w (gmT m s t y i).list r).1 ((srv s m.length r).take k)).1,p.length=2:=fun p hp=>Qq (qF ht hwl hr' _ _ (fun u hu=>wR m s r m.length (Nat.le_refl _) u (List.mem_of_mem_take hu)) ham p hp)
    simp only [xr,simprocAttr]
    refine ah ?_
    refine aj amQ (fun hf =>?_) (fun hf =>?_)
    ·have hf:=of_decide_eq_true hf
     have hk':k<(srv s m.length r).length:=by omega
     obtain ⟨z,hz1,hz2,hz3⟩:=QI hk'
     have hstep:dV m s t i st w r (bC m s t i st w (gmT m s t y i).list r).1 ((srv s m.length r).take (k+1))=eF m s t i st w r (dV m s t i st w r (bC m s t i st w (gmT m s t y i).list r).1 ((srv s m.length r).take k)) z:=by rw [eU hk' 0,hz1,zC]
     refine ah ?_
     rw [hz1]
     refine ah ?_
     ((try refine Or.inl ?_);refine ⟨_,(U0 _ _ _ hrm),.inl rfl,?_⟩;refine amC ?_)
     refine ah ?_
     refine aj amQ (fun hg =>?_) (fun hg =>?_)
     ·have hg:fV (dV m s t i st w r (bC m s t i st w (gmT m s t y i).list r).1 ((srv s m.length r).take k)).1 [(z:Int),(t.next.getD w []).getD r 0]<0:=of_decide_eq_true hg
      refine ah ?_
      (refine amB ?_;refine iD [1,2] 7 [4] (by kernel_rfl) (by kernel_rfl) (by kernel_rfl) (by kernel_rfl) (by kernel_rfl) ?_;refine amM ?_)
      refine amB ?_
      (refine lH 1 7 rfl rfl (by decide) rfl rfl ?_;simp only [xm,simprocAttr])
      refine ah ?_
      (refine amB ?_;refine iD [5] 20 [] (by kernel_rfl) (by kernel_rfl) (by kernel_rfl) (by kernel_rfl) (by kernel_rfl) ?_;refine amM ?_)
      ((try refine Or.inl ?_);refine ⟨_,(Ug m s st z r _ _ _ rfl rfl rfl hp hsl hz2 hr'),.inl rfl,?_⟩;refine amC ?_)
      refine amB ?_
      (refine lH 5 8 rfl rfl (by decide) rfl rfl ?_;simp only [xm,simprocAttr])
      refine ah ?_
      refine ⟨k+1,by omega,by omega,.inr ⟨6,Nat.le_of_ble_eq_true rfl,aT ?_ rfl rfl rfl⟩⟩
      have h1:kT (dV m s t i st w r (bC m s t i st w (gmT m s t y i).list r).1 ((srv s m.length r).take k)).1 (mD t w r z)=(dV m s t i st w r (bC m s t i st w (gmT m s t y i).list r).1 ((srv s m.length r).take k)).1++[mD t w r z]:=if_pos hg
      have h2:sZ (dV m s t i st w r (bC m s t i st w (gmT m s t y i).list r).1 ((srv s m.length r).take k)).1 (mD t w r z)=((dV m s t i st w r (bC m s t i st w (gmT m s t y i).list r).1 ((srv s m.length r).take k)).1.length:Int):=if_pos hg
      exact dw (by rw [hstep];simp only [eF,chG,h1,h2,Aq,Dq,Int.toNat_natCast];rfl)
     ·have hg:¬ fV (dV m s t i st w r (bC m s t i st w (gmT m s t y i).list r).1 ((srv s m.length r).take k)).1 [(z:Int),(t.next.getD w []).getD r 0]<0:=of_decide_eq_false hg
      refine ah ?_
      (refine amB ?_;refine iD [5] 20 [] (by kernel_rfl) (by kernel_rfl) (by kernel_rfl) (by kernel_rfl) (by kernel_rfl) ?_;refine amM ?_)
      ((try refine Or.inl ?_);refine ⟨_,(Ug m s st z r _ _ _ rfl rfl rfl hp hsl hz2 hr'),.inl rfl,?_⟩;refine amC ?_)
      refine amB ?_
      (refine lH 5 7 rfl rfl (by decide) rfl rfl ?_;simp only [xm,simprocAttr])
      refine ah ?_
      refine ⟨k+1,by omega,by omega,.inr ⟨6,Nat.le_of_ble_eq_true rfl,aT ?_ rfl rfl rfl⟩⟩
      have h1:kT (dV m s t i st w r (bC m s t i st w (gmT m s t y i).list r).1 ((srv s m.length r).take k)).1 (mD t w r z)=(dV m s t i st w r (bC m s t i st w (gmT m s t y i).list r).1 ((srv s m.length r).take k)).1:=if_neg hg
      have h2:sZ (dV m s t i st w r (bC m s t i st w (gmT m s t y i).list r).1 ((srv s m.length r).take k)).1 (mD t w r z)=fV (dV m s t i st w r (bC m s t i st w (gmT m s t y i).list r).1 ((srv s m.length r).take k)).1 (mD t w r z):=if_neg hg
      exact dw (by rw [hstep];simp only [eF,chG,h1,h2,Aq,Dq,Int.toNat_natCast];rfl)
    ·have hf:=of_decide_eq_false hf
     have hk':k=(srv s m.length r).length:=by omega
     subst hk'
     refine amB ?_
     rw [List.take_length]
     (refine aK 5 rfl ?_;simp only [xz,simprocAttr])
     refine ah ?_
     refine ⟨r+1,by omega,by omega,.inr ⟨5,Nat.le_of_ble_eq_true rfl,aT ?_ rfl rfl rfl⟩⟩
     exact dJ
   ·have hd:=of_decide_eq_false hd
    have hr':r=s.length:=by omega
    subst hr'
    refine amB ?_
    (refine aK 4 rfl ?_;simp only [xz,simprocAttr])
    refine ah ?_
    refine aj amQ (fun hg =>?_) (fun hg =>?_)
    ·have hg:=of_decide_eq_true hg
     have hbig:60<(gmT m s t y (i+1)).list.length:=by simp only [gmT,hst,hof];omega
     rw [hi.large hlt hbig]
     refine ah ?_
     (simp only [aC,aH];refine qL (vs:=[_,_]) [] rfl trivial rfl rfl rfl rfl ⟨rfl,rfl,trivial⟩ ?_;try rfl)
    ·have hg:=of_decide_eq_false hg
     have hbig:¬ 60<(gmT m s t y (i+1)).list.length:=by simp only [gmT,hst,hof];omega
     refine ah ?_
     refine ⟨i+1,hi.next hlt hbig,by omega,.inr ⟨4,Nat.le_of_ble_eq_true rfl,aT ?_ rfl rfl rfl⟩⟩
     exact dw (by simp only [gmT,hst,hof];rfl)
  ·have he:=of_decide_eq_false he
   rw [hi.done (by omega)]
   refine ah ?_
   (simp only [aC,aH];refine qL (vs:=[_,_]) [2,1,3] rfl ⟨rfl,rfl,rfl,trivial⟩ rfl rfl rfl rfl ⟨rfl,rfl,trivial⟩ ?_;try rfl)
 ·((try refine Or.inl ?_);refine ⟨_,(RZ hp hy ho),amF,?_⟩;refine amC ?_)
  have hq2:gm m s y=(⟨[[(y:Int),0]],[]⟩,true):=by unfold gm;rw [ho];rfl
  rw [hq2]
  refine ah ?_
  refine aj amQ (fun hd =>?_) (fun hd =>?_)
  ·refine ah ?_
   (simp only [aC,aH];refine qL (vs:=[_,_]) [] rfl trivial rfl rfl rfl rfl ⟨rfl,rfl,trivial⟩ ?_;try rfl)
  ·cases hd
def c4 (c:List Int):List Int:=[c.getD 5 0,c.getD 1 0,c.getD 2 0,c.getD 3 0]
def ch4 (ch:List (List (List (List Int)))):List (List (List (List Int))):=ch.map fun a=>a.map fun r=>r.map c4
def gmA (q:GmT×Bool):TV := .agg [.b (.sl (.k 2 q.1.list)),.b (.sl (.kii 4 (ch4 q.1.ch))),.b (.val (.bool q.2))]
theorem Le {l:List (List Int)} {x:List Int}:sZ l x=(l.length:Int)↔fV l x<0:=by
 unfold sZ
 by_cases h:fV l x<0
 ·rw [if_pos h]
  exact ⟨fun _=>h,fun _=>rfl⟩
 ·rw [if_neg h]
  obtain ⟨k,hk,h1,-⟩:=Dt (Int.not_lt.1 h)
  have h1:fV l x=k:=h1
  omega
set_option maxHeartbeats 2000000 in
theorem RH (m s:List (List Int)) (y:Nat) (hp:bg m s=true) (hy:y<m.length):Does Tryz.prog 85 [prA m s,.int y] (.imm (.tv (gmA (gm m s y)))):=by
 have hl:=bI hp
 refine aF Tryz.func85 rfl Tryz.ntmps85 aQ (fun _ _=>by kernel_rfl) rfl (Nat.le_of_ble_eq_true rfl) ?_
 intro M0 w0
 rw [Tryz.results85]
 refine ah ?_
 cases ho:(jq m s y).2
 ·have ht:=EM hp hy ho
  have hc:=Qa m s y hp hy
  unfold jy at hc
  rw [ho] at hc
  have hg0:gm m s y=lU m s (jq m s y).1 y 100 0:=by unfold gm;rw [ho];rfl
  rw [hg0]
  generalize (jq m s y).1=t at ht hc
  ((try refine Or.inl ?_);refine ⟨_,hc,amF,?_⟩;refine amC ?_)
  (refine amB ?_;refine rJ [false,false,true] ?_;refine amN ?_)
  (refine kJ 4 1 121 (.kii 4 []) rfl rfl rfl (by first | trivial | (intro _ h;cases h)) ?_;simp only [xr,simprocAttr])
  refine ah ?_
  refine aA (α:=Nat×Bool) (fun p=>[(7,true,.int p.1)]) [2,4,5,6] (fun p=>[.box [.b (.sl (.ii m)),.b (.sl (.ii s))],.box [.b (.val (.slice none 0 0)),.b (.val (.slice none 0 0)),.b (.val (.bool false))],.box [.b (.sl (.ii t.list)),.b (.sl (.ii t.next)),.b (.sl (.ii t.grows)),.b (.val (.bool false))],.row 112 (.k 2 (gmT m s t y p.1).list),.box [.own 3,.own 5,.b (.val (.bool p.2))],.row 121 (.kii 4 (ch4 (gmT m s t y p.1).ch))]) (fun p=>(p.2=false/\GmI m s t y p.1)\/(p.2=true/\p.1<=61/\lU m s t y 100 0=(gmT m s t y p.1,true))) (fun p=>62-p.1) (0,false) (by exact dJ) (.inl ⟨rfl,GmI.first m s t y⟩) fun p hi =>?_
  obtain ⟨i,bad⟩:=p
  rcases hi with ⟨hb,hi⟩ | ⟨hb,hb1,hb2⟩
  ·simp only at hb hi
   subst hb
   have hile:=hi.le
   have hlen:=hi.len
   have hok:=vW ht hy i hi.lt
   have hcl:=hok.clen
   have hcl4:(ch4 (gmT m s t y i).ch).length=i:=by simp [ch4,hcl]
   simp only [xr,simprocAttr]
   refine ah ?_
   refine aj amQ (fun he =>?_) (fun he =>?_)
   ·have hlt:i<(gmT m s t y i).list.length:=by
     by_cases h:(i:Int)<(gmT m s t y i).list.length
     ·omega
     ·rw [decide_eq_false h] at he;cases he
    obtain ⟨st,w,hpos,hst,hof,hsl,hwl⟩:=FX hok hlt
    have htl:=ht.nlen
    have htg:=ht.glen
    have hms:=iC hp hsl
    refine ah ?_
    rw [hpos]
    simp only [xr,simprocAttr]
    refine ah ?_
    refine aA (α:=Nat) (fun r=>[(11,true,.int r)]) [2,4,5,6,7,8,9,10] (fun r=>[.box [.b (.sl (.ii m)),.b (.sl (.ii s))],.box [.b (.val (.slice none 0 0)),.b (.val (.slice none 0 0)),.b (.val (.bool false))],.box [.b (.sl (.ii t.list)),.b (.sl (.ii t.next)),.b (.sl (.ii t.grows)),.b (.val (.bool false))],.row 112 (.k 2 (bC m s t i st w (gmT m s t y i).list r).1),.box [.own 3,.own 5,.b (.val (.bool false))],.row 121 (.kii 4 (ch4 (gmT m s t y i).ch)),.row 120 (.ki 4 ((bC m s t i st w (gmT m s t y i).list r).2.map fun a=>a.map c4))]) (fun r=>r<=s.length) (fun r=>s.length-r) 0 (by exact dJ) (Nat.zero_le _) fun r hr =>?_
    have hmul:r*m.length<=4*4:=Nat.mul_le_mul (by omega) (by omega)
    have hal:=jW m s t i st w (gmT m s t y i).list r
    have ham:=uh ht hwl hok.el (i:=i) (st:=st) r hr
    have hal4:((bC m s t i st w (gmT m s t y i).list r).2.map fun a=>a.map c4).length=r:=by rw [List.length_map,hal.2.2]
    simp only [xr,simprocAttr]
    refine ah ?_
    refine aj amQ (fun hd =>?_) (fun hd =>?_)
    ·have hd:=of_decide_eq_true hd
     have hr':r<s.length:=by omega
     have hrow:=kE hp r hr'
     have htw:=ht.row w hwl
     refine ah ?_
     refine aA (α:=Nat) (fun u=>[(13,true,.int u)]) [2,4,5,6,7,8,9,10,11,12] (fun u=>[.box [.b (.sl (.ii m)),.b (.sl (.ii s))],.box [.b (.val (.slice none 0 0)),.b (.val (.slice none 0 0)),.b (.val (.bool false))],.box [.b (.sl (.ii t.list)),.b (.sl (.ii t.next)),.b (.sl (.ii t.grows)),.b (.val (.bool false))],.row 112 (.k 2 (dV m s t i st w r (bC m s t i st w (gmT m s t y i).list r).1 (srv s u r)).1),.box [.own 3,.own 5,.b (.val (.bool false))],.row 121 (.kii 4 (ch4 (gmT m s t y i).ch)),.row 120 (.ki 4 ((bC m s t i st w (gmT m s t y i).list r).2.map fun a=>a.map c4)),.row 123 (.k 4 ((dV m s t i st w r (bC m s t i st w (gmT m s t y i).list r).1 (srv s u r)).2.map c4))]) (fun u=>u<=m.length) (fun u=>m.length-u) 0 (by exact dJ) (Nat.zero_le _) fun u hu =>?_
     have hsl4:=uJ s u r
     have hrl:=uj m s t i st w r (bC m s t i st w (gmT m s t y i).list r).1 (srv s u r)
     have hrl4:((dV m s t i st w r (bC m s t i st w (gmT m s t y i).list r).1 (srv s u r)).2.map c4).length<=4:=by rw [List.length_map,hrl.2.2];omega
     have hrm:∀ p∈(dV m s t i st w r (bC m s t i st w (gmT m s t y i).list r).1 (srv s u r)).1,p.length=2:=fun p hp=>Qq (qF ht hwl hr' _ _ (wR m s r u hu) ham p hp)
     simp only [xr,simprocAttr]
     refine ah ?_
     refine aj amQ (fun hf =>?_) (fun hf =>?_)
     ·have hf:=of_decide_eq_true hf
      have hu':u<m.length:=by omega
      have hmu:=hms.2 u hu'
      have hsu:=wI hp hr' u hu'
      unfold at2 at hmu hsu
      refine ah ?_
      refine aj amQ (fun hn =>?_) (fun hn =>?_)
      ·have hn:¬ 0<=at2 s r u:=by have hn:=of_decide_eq_true hn;unfold at2;omega
       have hsr:srv s (u+1) r=srv s u r:=by rw [pX,if_neg hn]
       refine ah ?_
       refine ⟨u+1,by omega,by omega,.inl ?_⟩
       exact dw (by rw [hsr])
      ·have hn:0<=at2 s r u:=by have hn:=of_decide_eq_false hn;unfold at2;omega
       have hsr:srv s (u+1) r=srv s u r++[(u:Int)]:=by rw [pX,if_pos hn]
       refine ah ?_
       ((try refine Or.inl ?_);refine ⟨_,(Ya _ _ _ hrm),.inl rfl,?_⟩;refine amC ?_)
       refine ah ?_
       refine aj amQ (fun hg =>?_) (fun hg =>?_)
       ·have hg:fV (dV m s t i st w r (bC m s t i st w (gmT m s t y i).list r).1 (srv s u r)).1 (mD t w r u)<0:=Le.1 (of_decide_eq_true hg)
        have h1:kT (dV m s t i st w r (bC m s t i st w (gmT m s t y i).list r).1 (srv s u r)).1 (mD t w r u)=(dV m s t i st w r (bC m s t i st w (gmT m s t y i).list r).1 (srv s u r)).1++[mD t w r u]:=if_pos hg
        refine ah ?_
        (refine amB ?_;refine iD [3,4] 13 [1] (by kernel_rfl) (by kernel_rfl) (by kernel_rfl) (by kernel_rfl) (by kernel_rfl) ?_;refine amM ?_)
        refine amB ?_
        (refine lH 3 8 rfl rfl (by decide) rfl rfl ?_;simp only [xm,simprocAttr])
        refine ah ?_
        (refine amB ?_;refine iD [7] 30 [] (by kernel_rfl) (by kernel_rfl) (by kernel_rfl) (by kernel_rfl) (by kernel_rfl) ?_;refine amM ?_)
        refine amB ?_
        (refine lH 7 9 rfl rfl (by decide) rfl rfl ?_;simp only [xm,simprocAttr])
        refine ah ?_
        refine ⟨u+1,by omega,by omega,.inr ⟨8,Nat.le_of_ble_eq_true rfl,aT ?_ rfl rfl rfl⟩⟩
        exact dw (by rw [hsr,zC];simp only [eF,h1,List.map_append];rfl)
       ·have hg:¬ fV (dV m s t i st w r (bC m s t i st w (gmT m s t y i).list r).1 (srv s u r)).1 (mD t w r u)<0:=fun h=>absurd (Le.2 h) (of_decide_eq_false hg)
        have h1:kT (dV m s t i st w r (bC m s t i st w (gmT m s t y i).list r).1 (srv s u r)).1 (mD t w r u)=(dV m s t i st w r (bC m s t i st w (gmT m s t y i).list r).1 (srv s u r)).1:=if_neg hg
        refine ah ?_
        (refine amB ?_;refine iD [7] 30 [] (by kernel_rfl) (by kernel_rfl) (by kernel_rfl) (by kernel_rfl) (by kernel_rfl) ?_;refine amM ?_)
        refine amB ?_
        (refine lH 7 8 rfl rfl (by decide) rfl rfl ?_;simp only [xm,simprocAttr])
        refine ah ?_
        refine ⟨u+1,by omega,by omega,.inr ⟨8,Nat.le_of_ble_eq_true rfl,aT ?_ rfl rfl rfl⟩⟩
        exact dw (by rw [hsr,zC];simp only [eF,h1,List.map_append];rfl)
     ·have hf:=of_decide_eq_false hf
      have hu':u=m.length:=by omega
      subst hu'
      refine amB ?_
      (refine aK 7 rfl ?_;simp only [xz,simprocAttr])
      refine ah ?_
      refine ⟨r+1,by omega,by omega,.inr ⟨7,Nat.le_of_ble_eq_true rfl,aT ?_ rfl rfl rfl⟩⟩
      exact dw (by simp only [bC,List.map_append];rfl)
    ·have hd:=of_decide_eq_false hd
     have hr':r=s.length:=by omega
     subst hr'
     refine amB ?_
     (refine aK 6 rfl ?_;simp only [xz,simprocAttr])
     refine ah ?_
     have hgl:(gmT m s t y (i+1)).list=(bC m s t i st w (gmT m s t y i).list s.length).1:=by simp only [gmT,hst,hof]
     by_cases hbig:60<(gmT m s t y (i+1)).list.length
     ·have hdec:decide ((60:Int)<(bC m s t i st w (gmT m s t y i).list s.length).1.length)=true:=decide_eq_true (by rw [← hgl];omega)
      rw [hdec]
      refine ⟨(i+1,true),.inr ⟨rfl,by omega,hi.large hlt hbig⟩,by simp only;omega,.inr ⟨6,Nat.le_of_ble_eq_true rfl,aT ?_ rfl rfl rfl⟩⟩
      exact dw (by simp only [gmT,hst,hof,ch4,List.map_append];rfl)
     ·have hdec:decide ((60:Int)<(bC m s t i st w (gmT m s t y i).list s.length).1.length)=false:=decide_eq_false (by rw [← hgl];omega)
      rw [hdec]
      refine ⟨(i+1,false),.inl ⟨rfl,hi.next hlt hbig⟩,by simp only;omega,.inr ⟨6,Nat.le_of_ble_eq_true rfl,aT ?_ rfl rfl rfl⟩⟩
      exact dw (by simp only [gmT,hst,hof,ch4,List.map_append];rfl)
   ·have hnl:¬ i<(gmT m s t y i).list.length:=fun h=>by
     rw [decide_eq_true (show (i:Int)<(gmT m s t y i).list.length by omega)] at he;cases he
    rw [hi.done hnl]
    refine jC ?_
    (refine aK 3 rfl ?_;simp only [xz,simprocAttr])
    (refine aK 5 rfl ?_;simp only [xz,simprocAttr])
    refine ah ?_
    (simp only [xec,simprocAttr];refine ⟨_,⟨amK,rfl⟩,rfl,Imp.eq ?_⟩)
    rfl
  ·simp only at hb hb1 hb2
   subst hb
   rw [hb2]
   simp only [xr,simprocAttr]
   refine ah ?_
   refine aj amQ (fun he =>?_) (fun he =>?_)
   ·exfalso
    revert he
    cases decide ((i:Int)<(gmT m s t y i).list.length)<;>decide
   ·refine jC ?_
    (refine aK 3 rfl ?_;simp only [xz,simprocAttr])
    (refine aK 5 rfl ?_;simp only [xz,simprocAttr])
    refine ah ?_
    (simp only [xec,simprocAttr];refine ⟨_,⟨amK,rfl⟩,rfl,Imp.eq ?_⟩)
    rfl
 ·have hc:=Qa m s y hp hy
  unfold jy at hc
  rw [ho] at hc
  have hg0:gm m s y=(⟨[[(y:Int),0]],[]⟩,true):=by unfold gm;rw [ho];rfl
  rw [hg0]
  generalize (jq m s y).1=t at hc
  ((try refine Or.inl ?_);refine ⟨_,hc,amF,?_⟩;refine amC ?_)
  (refine amB ?_;refine rJ [false,false,true] ?_;refine amN ?_)
  (refine kJ 4 1 121 (.kii 4 []) rfl rfl rfl (by first | trivial | (intro _ h;cases h)) ?_;simp only [xr,simprocAttr])
  refine ah ?_
  refine aA (α:=Nat) (fun _=>[(7,true,.int 0)]) [2,4,5,6] (fun _=>[.box [.b (.sl (.ii m)),.b (.sl (.ii s))],.box [.b (.val (.slice none 0 0)),.b (.val (.slice none 0 0)),.b (.val (.bool false))],.box [.b (.sl (.ii t.list)),.b (.sl (.ii t.next)),.b (.sl (.ii t.grows)),.b (.val (.bool true))],.row 112 (.k 2 [[(y:Int),0]]),.box [.own 3,.own 5,.b (.val (.bool true))],.row 121 (.kii 4 [])]) (fun _=>True) (fun i=>i) 0 (by exact bW) trivial fun i _ =>?_
  simp only [xr,simprocAttr]
  refine ah ?_
  refine aj amQ (fun he =>?_) (fun he =>?_)
  ·cases he
  ·refine jC ?_
   (refine aK 3 rfl ?_;simp only [xz,simprocAttr])
   (refine aK 5 rfl ?_;simp only [xz,simprocAttr])
   refine ah ?_
   (simp only [xec,simprocAttr];refine ⟨_,⟨amK,rfl⟩,rfl,Imp.eq ?_⟩)
   rfl
theorem Bj {m s:List (List Int)} {x:Int} (h:bH m s x []=false):gmQ m s x=(⟨[],[]⟩,true):=by unfold gmQ;rw [h];rfl
theorem KE (m s:List (List Int)) (x:Int):Does Tryz.prog 39 [prA m s,.int x] (.imm (.tup [bif bH m s x [] then gmA (gmQ m s x) else .agg [.b (.val (.slice none 0 0)),.b (.val (.slice none 0 0)),.b (.val (.bool false))],.one (.b (.val (.bool (!(gmQ m s x).2))))])):=by
 refine aF Tryz.func39 rfl Tryz.ntmps39 aQ (fun _ _=>by kernel_rfl) rfl (Nat.le_of_ble_eq_true rfl) ?_
 intro M0 w0
 rw [Tryz.results39]
 refine ah ?_
 ((try refine Or.inl ?_);refine ⟨_,(RP m s x []),.inl rfl,?_⟩;refine amC ?_)
 refine ah ?_
 refine aj amQ (fun hc =>?_) (fun hc =>?_)
 ·have hc':bH m s x []=false:=by simpa using hc
  rw [Bj hc',hc']
  refine ah ?_
  refine AU ?_
  rfl
 ·have hc':bH m s x []=true:=by simpa using hc
  obtain ⟨hp,⟨y,rfl,hy⟩,-,-⟩:=qc hc'
  have hq:gmQ m s y=gm m s y:=by unfold gmQ;rw [hc',Int.toNat_natCast];rfl
  rw [hq,hc']
  have hg:=RH m s y hp hy
  generalize gm m s y=q at hg
  change Does _ _ _ (.imm (.tv (.agg [.b (.sl (.k 2 q.1.list)),.b (.sl (.kii 4 (ch4 q.1.ch))),.b (.val (.bool q.2))]))) at hg
  refine ah ?_
  ((try refine Or.inl ?_);refine ⟨_,hg,amF,?_⟩;refine amC ?_)
  refine ah ?_
  (refine amB ?_;refine iD [1] 4 [] (by kernel_rfl) (by kernel_rfl) (by kernel_rfl) (by kernel_rfl) (by kernel_rfl) ?_;refine amM ?_)
  refine ah ?_
  refine AU ?_
  rfl
theorem kY {m s:List (List Int)} {x:Int} (h:bH m s x []=false):Does Tryz.prog 39 [prA m s,.int x] (.imm (.tup [.agg [.b (.val (.slice none 0 0)),.b (.val (.slice none 0 0)),.b (.val (.bool false))],.one (.b (.val (.bool false)))])):=by
 have:=KE m s x
 rw [Bj h,h] at this
 exact this
theorem fC {m s:List (List Int)} {x:Int} (h:bH m s x []=true):Does Tryz.prog 39 [prA m s,.int x] (.imm (.tup [.agg [.b (.sl (.k 2 (gmQ m s x).1.list)),.b (.sl (.kii 4 (ch4 (gmQ m s x).1.ch))),.b (.val (.bool (gmQ m s x).2))],.one (.b (.val (.bool (!(gmQ m s x).2))))])):=by
 have:=KE m s x
 rw [h] at this
 exact this
end Go.Proofs.YtnblieajjclipaaGreat
