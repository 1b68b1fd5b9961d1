/- Positions of games on the machine: where one lies in a list. Conditions: positions of two numbers. -/
import Derived.Test.YtkcelmnbfbehbaaGreatOF
import Derived.Test.YtkcelmnbfbehbaaGreatZGSC
set_option linter.all false
namespace Go.Proofs.YtkcelmnbfbehbaaGreat
open Go Go.RowKit Am
theorem Ew {l:List (List Int)} (h:∀ p∈l,p.length=2) {k:Nat} (hk:k<l.length):[(l.getD k []).getD 0 0,(l.getD k []).getD 1 0]=l[k]:=by
 rw [getD_in hk]
 have h2:=h _ (List.getElem_mem hk)
 match e:l[k],h2 with
 | [a,b],_=>rfl
theorem Kq (l:List (List Int)) (a b:Int) (hl:∀ p∈l,p.length=2):Does Tryz.prog 93 [.sl (.k 2 l),.tv (.agg [.b (.val (.int .i64 a)),.b (.val (.int .i64 b))])] (.imm (.int (eF l [a,b]))):=by
 refine aC Tryz.func93 rfl Tryz.ntmps93 aX (fun _ _=>by kernel_rfl) rfl (Nat.le_of_ble_eq_true rfl) ?_
 intro M0 w0
 rw [Tryz.results93]
 (refine dJ 0 rfl fun hf =>?_;simp only [xp,simprocAttr] at hf;simp only [xf,simprocAttr] at hf)
 refine ah ?_
 refine au (α:=Nat) (fun k=>[(8,true,.int k)]) [0,3,6,7] (fun _=>[.box [.b (.val (.int .i64 a)),.b (.val (.int .i64 b))]]) (fun k=>k<=l.length/\∀ x∈l.take k,decide (x=[a,b])=false) (fun k=>l.length-k) 0 (by exact dQ) ⟨Nat.zero_le _,by simp⟩ fun k hk =>?_
 obtain ⟨hk,hp⟩:=hk
 simp only [xr,simprocAttr]
 refine ah ?_
 refine aj amQ (fun hc =>?_) (fun hc =>?_)
 ·have hk':k<l.length:=by simpa using hc
  have h2:=Ew hl hk'
  refine ah ?_
  refine aj amQ (fun hd =>?_) (fun hd =>?_)
  ·have hd:=of_decide_eq_true hd
   have e:eF l [a,b]=k:=fZ hk' (by rw [← h2,hd];simp) hp
   refine ah ?_
   refine bV ?_
   rw [e]
  ·have hd:=of_decide_eq_false hd
   refine ah ?_
   refine ⟨k+1,by omega,fun x hx' =>?_,by omega,.inl ?_⟩
   ·rw [List.take_succ_eq_append_getElem hk',List.mem_append,List.mem_singleton] at hx'
    rcases hx' with hx' | rfl
    ·exact hp x hx'
    ·rw [← h2];exact decide_eq_false fun e=>hd e.symm
   ·exact dQ
 ·have hk':k=l.length:=by simp at hc;omega
  subst hk'
  rw [List.take_length] at hp
  have e:eF l [a,b] = -1:=gW hp
  refine ah ?_
  refine bV ?_
  rw [e]
theorem Yf (l:List (List Int)) (a b:Int) (hl:∀ p∈l,p.length=2):Does Tryz.prog 148 [.sl (.k 2 l),.tv (.agg [.b (.val (.int .i64 a)),.b (.val (.int .i64 b))])] (.imm (.int (oD l [a,b]))):=by
 refine aC Tryz.func148 rfl Tryz.ntmps148 aX (fun _ _=>by kernel_rfl) rfl (Nat.le_of_ble_eq_true rfl) ?_
 intro M0 w0
 rw [Tryz.results148]
 (refine dJ 0 rfl fun hf =>?_;simp only [xp,simprocAttr] at hf;simp only [xf,simprocAttr] at hf)
 refine ah ?_
 refine au (α:=Nat) (fun k=>[(5,true,.int k)]) [0,3] (fun _=>[.box [.b (.val (.int .i64 a)),.b (.val (.int .i64 b))]]) (fun k=>k<=l.length/\∀ x∈l.take k,decide (x=[a,b])=false) (fun k=>l.length-k) 0 (by exact dQ) ⟨Nat.zero_le _,by simp⟩ fun k hk =>?_
 obtain ⟨hk,hp⟩:=hk
 simp only [xr,simprocAttr]
 refine ah ?_
 refine aj amQ (fun hc =>?_) (fun hc =>?_)
 ·have hk':k<l.length:=by
   by_cases h:(k:Int)<l.length
   ·omega
   ·rw [decide_eq_false h] at hc;cases hc
  rw [decide_eq_true (show (k:Int)<l.length by omega),Ew hl hk'] at hc
  have hd:decide (l[k]=[a,b])=false:=by simpa using hc
  refine ah ?_
  refine ⟨k+1,by omega,fun x hx' =>?_,by omega,.inl ?_⟩
  ·rw [List.take_succ_eq_append_getElem hk',List.mem_append,List.mem_singleton] at hx'
   rcases hx' with hx' | rfl
   ·exact hp x hx'
   ·exact hd
  ·exact dQ
 ·refine ah ?_
  refine bV ?_
  by_cases h:k<l.length
  ·rw [decide_eq_true (show (k:Int)<l.length by omega),Ew hl h] at hc
   have hd:decide (l[k]=[a,b])=true:=by simpa using hc
   have e:eF l [a,b]=k:=fZ h hd hp
   unfold oD
   rw [e,if_neg (by omega)]
  ·obtain rfl:k=l.length:=by omega
   rw [List.take_length] at hp
   have e:eF l [a,b] = -1:=gW hp
   unfold oD
   rw [e,if_pos (by omega)]
def gmO (q:GmT×Bool):List Ob:=bif q.2 then [] else [.box [.own 1,.own 2],.row 145 (.k 2 q.1.list),.row 82 (.kii 6 q.1.ch)]
def gmR (q:GmT×Bool):AV:=bif q.2 then .tup [.one (.b (.val (.pointer none))),.one (.b (.val (.bool false)))] else .tup [.one (.ptr 0 0),.one (.b (.val (.bool true)))]
def gmQ (m s:List (List Int)) (x:Int):GmT×Bool:=bif bn m s x [] then gm m s x.toNat else (⟨[],[]⟩,true)
theorem Bg {n l:Nat} {p:List Int} (h:vF n l p):p.length=2:=by
 obtain ⟨_,_,rfl,_⟩:=h
 rfl
theorem Gl {m s:List (List Int)} {x:Nat} (hp:aO m s=true) (hx:x<m.length) (h:(gV m s x).2=false):Does Tryz.prog 92 [prA m s,.int x] (.imm (.tup [.one (.b (.sl (.ii (gV m s x).1.list))),.one (.b (.sl (.ii (gV m s x).1.next))),.one (.b (.sl (.ii (gV m s x).1.grows))),.one (.b (.val (.bool true)))])):=by
 have:=Gj m s x hp hx
 unfold aag at this
 rw [h] at this
 exact this
theorem Gi {m s:List (List Int)} {x:Nat} (hp:aO m s=true) (hx:x<m.length) (h:(gV m s x).2=true):Does Tryz.prog 92 [prA m s,.int x] (.imm (.tup [.one (.b (.val (.slice none 0 0))),.one (.b (.val (.slice none 0 0))),.one (.b (.val (.slice none 0 0))),.one (.b (.val (.bool false)))])):=by
 have:=Gj m s x hp hx
 unfold aag at this
 rw [h] at this
 exact this
set_option maxHeartbeats 2000000 in
theorem JX (m s:List (List Int)) (x:Int):bG Tryz.prog 35 [prA m s,.int x] [] [] (gmR (gmQ m s x)) (gmO (gmQ m s x)):=by
 refine bY Tryz.func35 rfl Tryz.ntmps35 aX (fun _ _=>by kernel_rfl) rfl rfl rfl ?_
 intro M0 w0 S φ0
 rw [Tryz.results35]
 refine ah ?_
 ((try refine Or.inl ?_);refine ⟨_,(lC _ _ _),.inl rfl,?_⟩;refine amC ?_)
 refine ah ?_
 refine aj amQ (fun hc =>?_) (fun hc =>?_)
 ·have hc':bn m s x []=false:=by simpa using hc
  have hq:gmQ m s x=(⟨[],[]⟩,true):=by unfold gmQ;rw [hc'];rfl
  rw [hq]
  refine ah ?_
  (simp only [aG,aN];refine kM (vs:=[_,_]) [] rfl trivial rfl rfl rfl rfl ⟨rfl,rfl,trivial⟩ ?_;try rfl)
 have hc':bn m s x []=true:=by simpa using hc
 obtain ⟨hp,⟨y,rfl,hy⟩,-,-⟩:=iK hc'
 have hq:gmQ m s y=gm m s y:=by unfold gmQ;rw [hc',Int.toNat_natCast];rfl
 rw [hq]
 have hl:=aQ hp
 refine ah ?_
 cases ho:(gV m s y).2
 ·((try refine Or.inl ?_);refine ⟨_,(Gl hp hy ho),amF,?_⟩;refine amC ?_)
  have ht:=uf hp hy ho
  have hg0:gm m s y=lY m s (gV m s y).1 y 100 0:=by unfold gm;rw [ho];rfl
  rw [hg0]
  generalize (gV m s y).1=t at ht ho
  refine ah ?_
  refine aj amQ (fun hd =>?_) (fun hd =>?_)
  ·cases hd
  (refine amB ?_;refine kZ [false,false,true] ?_;refine amN ?_)
  (refine iZ 2 1 82 (.kii 6 []) rfl rfl rfl (by first | trivial | (intro _ h;cases h)) ?_;simp only [xr,simprocAttr])
  refine ah ?_
  refine au (α:=Nat) (fun i=>[(11,true,.int i)]) [2,7,8,10] (fun i=>[.box [.b (.sl (.ii m)),.b (.sl (.ii s))],.row 145 (.k 2 (gmT m s t y i).list),.box [.own 1,.own 3],.row 82 (.kii 6 (gmT m s t y i).ch)]) (GmI m s t y) (fun i=>61-i) 0 (by exact aV) (GmI.first m s t y) fun i hi =>?_
  have hile:=hi.le
  have hlen:=hi.len
  have hok:=wC ht hy i hi.lt
  have hcl:=hok.clen
  simp only [xr,simprocAttr]
  refine ah ?_
  refine aj amQ (fun he =>?_) (fun he =>?_)
  ·have he:=of_decide_eq_true he
   have hlt:i<(gmT m s t y i).list.length:=by omega
   obtain ⟨st,w,hpos,hst,hof,hsl,hwl⟩:=FK hok hlt
   have htl:=ht.nlen
   have htg:=ht.glen
   refine ah ?_
   rw [hpos]
   simp only [xr,simprocAttr]
   refine ah ?_
   refine au (α:=Nat) (fun r=>[(69,true,.int r)]) [2,7,8,10,11,12,13,14,68] (fun r=>[.box [.b (.sl (.ii m)),.b (.sl (.ii s))],.row 145 (.k 2 (bf m s t i st w (gmT m s t y i).list r).1),.box [.own 1,.own 3],.row 82 (.kii 6 (gmT m s t y i).ch),.row 83 (.ki 6 (bf m s t i st w (gmT m s t y i).list r).2)]) (fun r=>r<=s.length) (fun r=>s.length-r) 0 (by exact aV) (Nat.zero_le _) fun r hr =>?_
   have hmul:r*m.length<=4*4:=Nat.mul_le_mul (by omega) (by omega)
   have hal:=kE m s t i st w (gmT m s t y i).list r
   have ham:=uo ht hwl hok.el (i:=i) (st:=st) r hr
   simp only [xr,simprocAttr]
   refine ah ?_
   refine aj amQ (fun hd =>?_) (fun hd =>?_)
   ·have hd:=of_decide_eq_true hd
    have hr':r<s.length:=by omega
    have hrow:=eG hp r hr'
    have htw:=ht.row w hwl
    refine ah ?_
    ((try refine Or.inl ?_);refine ⟨_,(oh m s r hr' hrow (by omega)),amF,?_⟩;refine amC ?_)
    refine ah ?_
    refine au (α:=Nat) (fun k=>[(77,true,.int k)]) [2,7,8,10,11,12,13,14,15,16,68,69,75,76] (fun k=>[.box [.b (.sl (.ii m)),.b (.sl (.ii s))],.row 145 (.k 2 (dV m s t i st w r (bf m s t i st w (gmT m s t y i).list r).1 ((srv s m.length r).take k)).1),.box [.own 1,.own 3],.row 82 (.kii 6 (gmT m s t y i).ch),.row 83 (.ki 6 (bf m s t i st w (gmT m s t y i).list r).2),.row 88 (.k 6 (dV m s t i st w r (bf m s t i st w (gmT m s t y i).list r).1 ((srv s m.length r).take k)).2)]) (fun k=>k<=(srv s m.length r).length) (fun k=>(srv s m.length r).length-k) 0 (by exact aV) (Nat.zero_le _) fun k hk =>?_
    have hsl4:=qY s m.length r
    have hrl:=uq m s t i st w r (bf m s t i st w (gmT m s t y i).list r).1 ((srv s m.length r).take k)
    rw [List.length_take] at hrl
    have hrm:∀ p∈(dV m s t i st w r (bf m s t i st w (gmT m s t y i).list r).1 ((srv s m.length r).take k)).1,p.length=2:=fun p hp=>Bg (qO ht hwl hr' _ _ (fun u hu=>wV m s r m.length (Nat.le_refl _) u (List.mem_of_mem_take hu)) ham p hp)
    simp only [xr,simprocAttr]
    refine ah ?_
    refine aj amQ (fun hf =>?_) (fun hf =>?_)
    ·have hf:=of_decide_eq_true hf
     have hk':k<(srv s m.length r).length:=by omega
     obtain ⟨z,hz1,hz2,hz3⟩:=IZ hk'
     have hstep:dV m s t i st w r (bf m s t i st w (gmT m s t y i).list r).1 ((srv s m.length r).take (k+1))=eP m s t i st w r (dV m s t i st w r (bf m s t i st w (gmT m s t y i).list r).1 ((srv s m.length r).take k)) z:=by rw [eH hk' 0,hz1,zx]
     refine ah ?_
     rw [hz1]
     refine ah ?_
     ((try refine Or.inl ?_);refine ⟨_,(Kq _ _ _ hrm),.inl rfl,?_⟩;refine amC ?_)
     refine ah ?_
     refine aj amQ (fun hg =>?_) (fun hg =>?_)
     ·have hg:eF (dV m s t i st w r (bf m s t i st w (gmT m s t y i).list r).1 ((srv s m.length r).take k)).1 [(z:Int),(t.next.getD w []).getD r 0]<0:=of_decide_eq_true hg
      refine ah ?_
      (refine amB ?_;refine fF [1,2] 7 [4] (by kernel_rfl) (by kernel_rfl) (by kernel_rfl) (by kernel_rfl) (by kernel_rfl) ?_;refine amM ?_)
      refine amB ?_
      (refine jJ 1 7 rfl rfl (by decide) rfl rfl ?_;simp only [xm,simprocAttr])
      refine ah ?_
      (refine amB ?_;refine fF [5] 20 [] (by kernel_rfl) (by kernel_rfl) (by kernel_rfl) (by kernel_rfl) (by kernel_rfl) ?_;refine amM ?_)
      ((try refine Or.inl ?_);refine ⟨_,(vU m s st z r _ _ _ rfl rfl rfl hp hsl hz2 hr'),.inl rfl,?_⟩;refine amC ?_)
      refine amB ?_
      (refine jJ 5 8 rfl rfl (by decide) rfl rfl ?_;simp only [xm,simprocAttr])
      refine ah ?_
      refine ⟨k+1,by omega,by omega,.inr ⟨6,Nat.le_of_ble_eq_true rfl,aJ ?_ rfl rfl rfl⟩⟩
      have h1:jP (dV m s t i st w r (bf m s t i st w (gmT m s t y i).list r).1 ((srv s m.length r).take k)).1 (fO t w r z)=(dV m s t i st w r (bf m s t i st w (gmT m s t y i).list r).1 ((srv s m.length r).take k)).1++[fO t w r z]:=if_pos hg
      have h2:oD (dV m s t i st w r (bf m s t i st w (gmT m s t y i).list r).1 ((srv s m.length r).take k)).1 (fO t w r z)=((dV m s t i st w r (bf m s t i st w (gmT m s t y i).list r).1 ((srv s m.length r).take k)).1.length:Int):=if_pos hg
      exact bI (by rw [hstep];simp only [eP,chG,h1,h2,jg,lu,Int.toNat_natCast];rfl)
     ·have hg:¬ eF (dV m s t i st w r (bf m s t i st w (gmT m s t y i).list r).1 ((srv s m.length r).take k)).1 [(z:Int),(t.next.getD w []).getD r 0]<0:=of_decide_eq_false hg
      refine ah ?_
      (refine amB ?_;refine fF [5] 20 [] (by kernel_rfl) (by kernel_rfl) (by kernel_rfl) (by kernel_rfl) (by kernel_rfl) ?_;refine amM ?_)
      ((try refine Or.inl ?_);refine ⟨_,(vU m s st z r _ _ _ rfl rfl rfl hp hsl hz2 hr'),.inl rfl,?_⟩;refine amC ?_)
      refine amB ?_
      (refine jJ 5 7 rfl rfl (by decide) rfl rfl ?_;simp only [xm,simprocAttr])
      refine ah ?_
      refine ⟨k+1,by omega,by omega,.inr ⟨6,Nat.le_of_ble_eq_true rfl,aJ ?_ rfl rfl rfl⟩⟩
      have h1:jP (dV m s t i st w r (bf m s t i st w (gmT m s t y i).list r).1 ((srv s m.length r).take k)).1 (fO t w r z)=(dV m s t i st w r (bf m s t i st w (gmT m s t y i).list r).1 ((srv s m.length r).take k)).1:=if_neg hg
      have h2:oD (dV m s t i st w r (bf m s t i st w (gmT m s t y i).list r).1 ((srv s m.length r).take k)).1 (fO t w r z)=eF (dV m s t i st w r (bf m s t i st w (gmT m s t y i).list r).1 ((srv s m.length r).take k)).1 (fO t w r z):=if_neg hg
      exact bI (by rw [hstep];simp only [eP,chG,h1,h2,jg,lu,Int.toNat_natCast];rfl)
    ·have hf:=of_decide_eq_false hf
     have hk':k=(srv s m.length r).length:=by omega
     subst hk'
     refine amB ?_
     rw [List.take_length]
     (refine aU 5 rfl ?_;simp only [xz,simprocAttr])
     refine ah ?_
     refine ⟨r+1,by omega,by omega,.inr ⟨5,Nat.le_of_ble_eq_true rfl,aJ ?_ rfl rfl rfl⟩⟩
     exact aV
   ·have hd:=of_decide_eq_false hd
    have hr':r=s.length:=by omega
    subst hr'
    refine amB ?_
    (refine aU 4 rfl ?_;simp only [xz,simprocAttr])
    refine ah ?_
    refine aj amQ (fun hg =>?_) (fun hg =>?_)
    ·have hg:=of_decide_eq_true hg
     have hbig:60<(gmT m s t y (i+1)).list.length:=by simp only [gmT,hst,hof];omega
     rw [hi.large hlt hbig]
     refine ah ?_
     (simp only [aG,aN];refine kM (vs:=[_,_]) [] rfl trivial rfl rfl rfl rfl ⟨rfl,rfl,trivial⟩ ?_;try rfl)
    ·have hg:=of_decide_eq_false hg
     have hbig:¬ 60<(gmT m s t y (i+1)).list.length:=by simp only [gmT,hst,hof];omega
     refine ah ?_
     refine ⟨i+1,hi.next hlt hbig,by omega,.inr ⟨4,Nat.le_of_ble_eq_true rfl,aJ ?_ rfl rfl rfl⟩⟩
     exact bI (by simp only [gmT,hst,hof];rfl)
  ·have he:=of_decide_eq_false he
   rw [hi.done (by omega)]
   refine ah ?_
   (simp only [aG,aN];refine kM (vs:=[_,_]) [2,1,3] rfl ⟨rfl,rfl,rfl,trivial⟩ rfl rfl rfl rfl ⟨rfl,rfl,trivial⟩ ?_;try rfl)
 ·((try refine Or.inl ?_);refine ⟨_,(Gi hp hy ho),amF,?_⟩;refine amC ?_)
  have hq2:gm m s y=(⟨[[(y:Int),0]],[]⟩,true):=by unfold gm;rw [ho];rfl
  rw [hq2]
  refine ah ?_
  refine aj amQ (fun hd =>?_) (fun hd =>?_)
  ·refine ah ?_
   (simp only [aG,aN];refine kM (vs:=[_,_]) [] rfl trivial rfl rfl rfl rfl ⟨rfl,rfl,trivial⟩ ?_;try rfl)
  ·cases hd
def c4 (c:List Int):List Int:=[c.getD 5 0,c.getD 1 0,c.getD 2 0,c.getD 3 0]
def ch4 (ch:List (List (List (List Int)))):List (List (List (List Int))):=ch.map fun a=>a.map fun r=>r.map c4
def gmA (q:GmT×Bool):TV := .agg [.b (.sl (.k 2 q.1.list)),.b (.sl (.kii 4 (ch4 q.1.ch))),.b (.val (.bool q.2))]
theorem yC {l:List (List Int)} {x:List Int}:oD l x=(l.length:Int)↔eF l x<0:=by
 unfold oD
 by_cases h:eF l x<0
 ·rw [if_pos h]
  exact ⟨fun _=>h,fun _=>rfl⟩
 ·rw [if_neg h]
  obtain ⟨k,hk,h1,-⟩:=J6 (Int.not_lt.1 h)
  have h1:eF l x=k:=h1
  omega
set_option maxHeartbeats 2000000 in
theorem Q8 (m s:List (List Int)) (y:Nat) (hp:aO m s=true) (hy:y<m.length):Does Tryz.prog 98 [prA m s,.int y] (.imm (.tv (gmA (gm m s y)))):=by
 have hl:=aQ hp
 refine aC Tryz.func98 rfl Tryz.ntmps98 aX (fun _ _=>by kernel_rfl) rfl (Nat.le_of_ble_eq_true rfl) ?_
 intro M0 w0
 rw [Tryz.results98]
 refine ah ?_
 cases ho:(gV m s y).2
 ·have ht:=uf hp hy ho
  have hc:=AX m s y hp hy
  unfold jk at hc
  rw [ho] at hc
  have hg0:gm m s y=lY m s (gV m s y).1 y 100 0:=by unfold gm;rw [ho];rfl
  rw [hg0]
  generalize (gV m s y).1=t at ht hc
  ((try refine Or.inl ?_);refine ⟨_,hc,amF,?_⟩;refine amC ?_)
  (refine amB ?_;refine kZ [false,false,true] ?_;refine amN ?_)
  (refine iZ 4 1 91 (.kii 4 []) rfl rfl rfl (by first | trivial | (intro _ h;cases h)) ?_;simp only [xr,simprocAttr])
  refine ah ?_
  refine au (α:=Nat×Bool) (fun p=>[(7,true,.int p.1)]) [2,4,5,6] (fun p=>[.box [.b (.sl (.ii m)),.b (.sl (.ii s))],.box [.b (.val (.slice none 0 0)),.b (.val (.slice none 0 0)),.b (.val (.bool false))],.box [.b (.sl (.ii t.list)),.b (.sl (.ii t.next)),.b (.sl (.ii t.grows)),.b (.val (.bool false))],.row 145 (.k 2 (gmT m s t y p.1).list),.box [.own 3,.own 5,.b (.val (.bool p.2))],.row 91 (.kii 4 (ch4 (gmT m s t y p.1).ch))]) (fun p=>(p.2=false/\GmI m s t y p.1)\/(p.2=true/\p.1<=61/\lY m s t y 100 0=(gmT m s t y p.1,true))) (fun p=>62-p.1) (0,false) (by exact aV) (.inl ⟨rfl,GmI.first m s t y⟩) fun p hi =>?_
  obtain ⟨i,bad⟩:=p
  rcases hi with ⟨hb,hi⟩ | ⟨hb,hb1,hb2⟩
  ·simp only at hb hi
   subst hb
   have hile:=hi.le
   have hlen:=hi.len
   have hok:=wC ht hy i hi.lt
   have hcl:=hok.clen
   have hcl4:(ch4 (gmT m s t y i).ch).length=i:=by simp [ch4,hcl]
   simp only [xr,simprocAttr]
   refine ah ?_
   refine aj amQ (fun he =>?_) (fun he =>?_)
   ·have hlt:i<(gmT m s t y i).list.length:=by
     by_cases h:(i:Int)<(gmT m s t y i).list.length
     ·omega
     ·rw [decide_eq_false h] at he;cases he
    obtain ⟨st,w,hpos,hst,hof,hsl,hwl⟩:=FK hok hlt
    have htl:=ht.nlen
    have htg:=ht.glen
    have hms:=iH hp hsl
    refine ah ?_
    rw [hpos]
    simp only [xr,simprocAttr]
    refine ah ?_
    refine au (α:=Nat) (fun r=>[(11,true,.int r)]) [2,4,5,6,7,8,9,10] (fun r=>[.box [.b (.sl (.ii m)),.b (.sl (.ii s))],.box [.b (.val (.slice none 0 0)),.b (.val (.slice none 0 0)),.b (.val (.bool false))],.box [.b (.sl (.ii t.list)),.b (.sl (.ii t.next)),.b (.sl (.ii t.grows)),.b (.val (.bool false))],.row 145 (.k 2 (bf m s t i st w (gmT m s t y i).list r).1),.box [.own 3,.own 5,.b (.val (.bool false))],.row 91 (.kii 4 (ch4 (gmT m s t y i).ch)),.row 152 (.ki 4 ((bf m s t i st w (gmT m s t y i).list r).2.map fun a=>a.map c4))]) (fun r=>r<=s.length) (fun r=>s.length-r) 0 (by exact aV) (Nat.zero_le _) fun r hr =>?_
    have hmul:r*m.length<=4*4:=Nat.mul_le_mul (by omega) (by omega)
    have hal:=kE m s t i st w (gmT m s t y i).list r
    have ham:=uo ht hwl hok.el (i:=i) (st:=st) r hr
    have hal4:((bf m s t i st w (gmT m s t y i).list r).2.map fun a=>a.map c4).length=r:=by rw [List.length_map,hal.2.2]
    simp only [xr,simprocAttr]
    refine ah ?_
    refine aj amQ (fun hd =>?_) (fun hd =>?_)
    ·have hd:=of_decide_eq_true hd
     have hr':r<s.length:=by omega
     have hrow:=eG hp r hr'
     have htw:=ht.row w hwl
     refine ah ?_
     refine au (α:=Nat) (fun u=>[(13,true,.int u)]) [2,4,5,6,7,8,9,10,11,12] (fun u=>[.box [.b (.sl (.ii m)),.b (.sl (.ii s))],.box [.b (.val (.slice none 0 0)),.b (.val (.slice none 0 0)),.b (.val (.bool false))],.box [.b (.sl (.ii t.list)),.b (.sl (.ii t.next)),.b (.sl (.ii t.grows)),.b (.val (.bool false))],.row 145 (.k 2 (dV m s t i st w r (bf m s t i st w (gmT m s t y i).list r).1 (srv s u r)).1),.box [.own 3,.own 5,.b (.val (.bool false))],.row 91 (.kii 4 (ch4 (gmT m s t y i).ch)),.row 152 (.ki 4 ((bf m s t i st w (gmT m s t y i).list r).2.map fun a=>a.map c4)),.row 154 (.k 4 ((dV m s t i st w r (bf m s t i st w (gmT m s t y i).list r).1 (srv s u r)).2.map c4))]) (fun u=>u<=m.length) (fun u=>m.length-u) 0 (by exact aV) (Nat.zero_le _) fun u hu =>?_
     have hsl4:=qY s u r
     have hrl:=uq m s t i st w r (bf m s t i st w (gmT m s t y i).list r).1 (srv s u r)
     have hrl4:((dV m s t i st w r (bf m s t i st w (gmT m s t y i).list r).1 (srv s u r)).2.map c4).length<=4:=by rw [List.length_map,hrl.2.2];omega
     have hrm:∀ p∈(dV m s t i st w r (bf m s t i st w (gmT m s t y i).list r).1 (srv s u r)).1,p.length=2:=fun p hp=>Bg (qO ht hwl hr' _ _ (wV m s r u hu) ham p hp)
     simp only [xr,simprocAttr]
     refine ah ?_
     refine aj amQ (fun hf =>?_) (fun hf =>?_)
     ·have hf:=of_decide_eq_true hf
      have hu':u<m.length:=by omega
      have hmu:=hms.2 u hu'
      have hsu:=qW hp hr' u hu'
      unfold at2 at hmu hsu
      refine ah ?_
      refine aj amQ (fun hn =>?_) (fun hn =>?_)
      ·have hn:¬ 0<=at2 s r u:=by have hn:=of_decide_eq_true hn;unfold at2;omega
       have hsr:srv s (u+1) r=srv s u r:=by rw [lM,if_neg hn]
       refine ah ?_
       refine ⟨u+1,by omega,by omega,.inl ?_⟩
       exact bI (by rw [hsr])
      ·have hn:0<=at2 s r u:=by have hn:=of_decide_eq_false hn;unfold at2;omega
       have hsr:srv s (u+1) r=srv s u r++[(u:Int)]:=by rw [lM,if_pos hn]
       refine ah ?_
       ((try refine Or.inl ?_);refine ⟨_,(Yf _ _ _ hrm),.inl rfl,?_⟩;refine amC ?_)
       refine ah ?_
       refine aj amQ (fun hg =>?_) (fun hg =>?_)
       ·have hg:eF (dV m s t i st w r (bf m s t i st w (gmT m s t y i).list r).1 (srv s u r)).1 (fO t w r u)<0:=yC.1 (of_decide_eq_true hg)
        have h1:jP (dV m s t i st w r (bf m s t i st w (gmT m s t y i).list r).1 (srv s u r)).1 (fO t w r u)=(dV m s t i st w r (bf m s t i st w (gmT m s t y i).list r).1 (srv s u r)).1++[fO t w r u]:=if_pos hg
        refine ah ?_
        (refine amB ?_;refine fF [3,4] 13 [1] (by kernel_rfl) (by kernel_rfl) (by kernel_rfl) (by kernel_rfl) (by kernel_rfl) ?_;refine amM ?_)
        refine amB ?_
        (refine jJ 3 8 rfl rfl (by decide) rfl rfl ?_;simp only [xm,simprocAttr])
        refine ah ?_
        (refine amB ?_;refine fF [7] 30 [] (by kernel_rfl) (by kernel_rfl) (by kernel_rfl) (by kernel_rfl) (by kernel_rfl) ?_;refine amM ?_)
        refine amB ?_
        (refine jJ 7 9 rfl rfl (by decide) rfl rfl ?_;simp only [xm,simprocAttr])
        refine ah ?_
        refine ⟨u+1,by omega,by omega,.inr ⟨8,Nat.le_of_ble_eq_true rfl,aJ ?_ rfl rfl rfl⟩⟩
        exact bI (by rw [hsr,zx];simp only [eP,h1,List.map_append];rfl)
       ·have hg:¬ eF (dV m s t i st w r (bf m s t i st w (gmT m s t y i).list r).1 (srv s u r)).1 (fO t w r u)<0:=fun h=>absurd (yC.2 h) (of_decide_eq_false hg)
        have h1:jP (dV m s t i st w r (bf m s t i st w (gmT m s t y i).list r).1 (srv s u r)).1 (fO t w r u)=(dV m s t i st w r (bf m s t i st w (gmT m s t y i).list r).1 (srv s u r)).1:=if_neg hg
        refine ah ?_
        (refine amB ?_;refine fF [7] 30 [] (by kernel_rfl) (by kernel_rfl) (by kernel_rfl) (by kernel_rfl) (by kernel_rfl) ?_;refine amM ?_)
        refine amB ?_
        (refine jJ 7 8 rfl rfl (by decide) rfl rfl ?_;simp only [xm,simprocAttr])
        refine ah ?_
        refine ⟨u+1,by omega,by omega,.inr ⟨8,Nat.le_of_ble_eq_true rfl,aJ ?_ rfl rfl rfl⟩⟩
        exact bI (by rw [hsr,zx];simp only [eP,h1,List.map_append];rfl)
     ·have hf:=of_decide_eq_false hf
      have hu':u=m.length:=by omega
      subst hu'
      refine amB ?_
      (refine aU 7 rfl ?_;simp only [xz,simprocAttr])
      refine ah ?_
      refine ⟨r+1,by omega,by omega,.inr ⟨7,Nat.le_of_ble_eq_true rfl,aJ ?_ rfl rfl rfl⟩⟩
      exact bI (by simp only [bf,List.map_append];rfl)
    ·have hd:=of_decide_eq_false hd
     have hr':r=s.length:=by omega
     subst hr'
     refine amB ?_
     (refine aU 6 rfl ?_;simp only [xz,simprocAttr])
     refine ah ?_
     have hgl:(gmT m s t y (i+1)).list=(bf m s t i st w (gmT m s t y i).list s.length).1:=by simp only [gmT,hst,hof]
     by_cases hbig:60<(gmT m s t y (i+1)).list.length
     ·have hdec:decide ((60:Int)<(bf m s t i st w (gmT m s t y i).list s.length).1.length)=true:=decide_eq_true (by rw [← hgl];omega)
      rw [hdec]
      refine ⟨(i+1,true),.inr ⟨rfl,by omega,hi.large hlt hbig⟩,by simp only;omega,.inr ⟨6,Nat.le_of_ble_eq_true rfl,aJ ?_ rfl rfl rfl⟩⟩
      exact bI (by simp only [gmT,hst,hof,ch4,List.map_append];rfl)
     ·have hdec:decide ((60:Int)<(bf m s t i st w (gmT m s t y i).list s.length).1.length)=false:=decide_eq_false (by rw [← hgl];omega)
      rw [hdec]
      refine ⟨(i+1,false),.inl ⟨rfl,hi.next hlt hbig⟩,by simp only;omega,.inr ⟨6,Nat.le_of_ble_eq_true rfl,aJ ?_ rfl rfl rfl⟩⟩
      exact bI (by simp only [gmT,hst,hof,ch4,List.map_append];rfl)
   ·have hnl:¬ i<(gmT m s t y i).list.length:=fun h=>by
     rw [decide_eq_true (show (i:Int)<(gmT m s t y i).list.length by omega)] at he;cases he
    rw [hi.done hnl]
    refine kY ?_
    (refine aU 3 rfl ?_;simp only [xz,simprocAttr])
    (refine aU 5 rfl ?_;simp only [xz,simprocAttr])
    refine ah ?_
    (simp only [xec,simprocAttr];refine ⟨_,⟨amK,rfl⟩,rfl,Imp.eq ?_⟩)
    rfl
  ·simp only at hb hb1 hb2
   subst hb
   rw [hb2]
   simp only [xr,simprocAttr]
   refine ah ?_
   refine aj amQ (fun he =>?_) (fun he =>?_)
   ·exfalso
    revert he
    cases decide ((i:Int)<(gmT m s t y i).list.length)<;>decide
   ·refine kY ?_
    (refine aU 3 rfl ?_;simp only [xz,simprocAttr])
    (refine aU 5 rfl ?_;simp only [xz,simprocAttr])
    refine ah ?_
    (simp only [xec,simprocAttr];refine ⟨_,⟨amK,rfl⟩,rfl,Imp.eq ?_⟩)
    rfl
 ·have hc:=AX m s y hp hy
  unfold jk at hc
  rw [ho] at hc
  have hg0:gm m s y=(⟨[[(y:Int),0]],[]⟩,true):=by unfold gm;rw [ho];rfl
  rw [hg0]
  generalize (gV m s y).1=t at hc
  ((try refine Or.inl ?_);refine ⟨_,hc,amF,?_⟩;refine amC ?_)
  (refine amB ?_;refine kZ [false,false,true] ?_;refine amN ?_)
  (refine iZ 4 1 91 (.kii 4 []) rfl rfl rfl (by first | trivial | (intro _ h;cases h)) ?_;simp only [xr,simprocAttr])
  refine ah ?_
  refine au (α:=Nat) (fun _=>[(7,true,.int 0)]) [2,4,5,6] (fun _=>[.box [.b (.sl (.ii m)),.b (.sl (.ii s))],.box [.b (.val (.slice none 0 0)),.b (.val (.slice none 0 0)),.b (.val (.bool false))],.box [.b (.sl (.ii t.list)),.b (.sl (.ii t.next)),.b (.sl (.ii t.grows)),.b (.val (.bool true))],.row 145 (.k 2 [[(y:Int),0]]),.box [.own 3,.own 5,.b (.val (.bool true))],.row 91 (.kii 4 [])]) (fun _=>True) (fun i=>i) 0 (by exact dQ) trivial fun i _ =>?_
  simp only [xr,simprocAttr]
  refine ah ?_
  refine aj amQ (fun he =>?_) (fun he =>?_)
  ·cases he
  ·refine kY ?_
   (refine aU 3 rfl ?_;simp only [xz,simprocAttr])
   (refine aU 5 rfl ?_;simp only [xz,simprocAttr])
   refine ah ?_
   (simp only [xec,simprocAttr];refine ⟨_,⟨amK,rfl⟩,rfl,Imp.eq ?_⟩)
   rfl
theorem Ia {m s:List (List Int)} {x:Int} (h:bn m s x []=false):gmQ m s x=(⟨[],[]⟩,true):=by unfold gmQ;rw [h];rfl
theorem KA (m s:List (List Int)) (x:Int):Does Tryz.prog 38 [prA m s,.int x] (.imm (.tup [bif bn m s x [] then gmA (gmQ m s x) else .agg [.b (.val (.slice none 0 0)),.b (.val (.slice none 0 0)),.b (.val (.bool false))],.one (.b (.val (.bool (!(gmQ m s x).2))))])):=by
 refine aC Tryz.func38 rfl Tryz.ntmps38 aX (fun _ _=>by kernel_rfl) rfl (Nat.le_of_ble_eq_true rfl) ?_
 intro M0 w0
 rw [Tryz.results38]
 refine ah ?_
 ((try refine Or.inl ?_);refine ⟨_,(uF m s x []),.inl rfl,?_⟩;refine amC ?_)
 refine ah ?_
 refine aj amQ (fun hc =>?_) (fun hc =>?_)
 ·have hc':bn m s x []=false:=by simpa using hc
  rw [Ia hc',hc']
  refine ah ?_
  refine ny ?_
  rfl
 ·have hc':bn m s x []=true:=by simpa using hc
  obtain ⟨hp,⟨y,rfl,hy⟩,-,-⟩:=iK hc'
  have hq:gmQ m s y=gm m s y:=by unfold gmQ;rw [hc',Int.toNat_natCast];rfl
  rw [hq,hc']
  have hg:=Q8 m s y hp hy
  generalize gm m s y=q at hg
  change Does _ _ _ (.imm (.tv (.agg [.b (.sl (.k 2 q.1.list)),.b (.sl (.kii 4 (ch4 q.1.ch))),.b (.val (.bool q.2))]))) at hg
  refine ah ?_
  ((try refine Or.inl ?_);refine ⟨_,hg,amF,?_⟩;refine amC ?_)
  refine ah ?_
  (refine amB ?_;refine fF [1] 4 [] (by kernel_rfl) (by kernel_rfl) (by kernel_rfl) (by kernel_rfl) (by kernel_rfl) ?_;refine amM ?_)
  refine ah ?_
  refine ny ?_
  rfl
theorem U5 {m s:List (List Int)} {x:Int} (h:bn m s x []=false):Does Tryz.prog 38 [prA m s,.int x] (.imm (.tup [.agg [.b (.val (.slice none 0 0)),.b (.val (.slice none 0 0)),.b (.val (.bool false))],.one (.b (.val (.bool false)))])):=by
 have:=KA m s x
 rw [Ia h,h] at this
 exact this
theorem KC {m s:List (List Int)} {x:Int} (h:bn m s x []=true):Does Tryz.prog 38 [prA m s,.int x] (.imm (.tup [.agg [.b (.sl (.k 2 (gmQ m s x).1.list)),.b (.sl (.kii 4 (ch4 (gmQ m s x).1.ch))),.b (.val (.bool (gmQ m s x).2))],.one (.b (.val (.bool (!(gmQ m s x).2))))])):=by
 have:=KA m s x
 rw [h] at this
 exact this
end Go.Proofs.YtkcelmnbfbehbaaGreat
