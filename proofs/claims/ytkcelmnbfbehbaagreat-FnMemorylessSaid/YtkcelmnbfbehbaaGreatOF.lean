/- Offsets on the machine: the reference's. Conditions: problems that are right. -/
import Derived.Test.YtkcelmnbfbehbaaGreatGWI
set_option linter.all false
namespace Go.Proofs.YtkcelmnbfbehbaaGreat
open Go Go.RowKit Am
theorem U8 (xs ys:List Int):Does Tryz.prog 109 [.sl (.ints xs),.sl (.ints ys)] (.imm (.bool (decide (xs=ys)))):=by
 refine aC Tryz.func109 rfl Tryz.ntmps109 aX (fun _ _=>by kernel_rfl) rfl (Nat.le_of_ble_eq_true rfl) ?_
 intro M0 w0
 rw [Tryz.results109]
 (refine dJ 0 rfl fun hf =>?_;simp only [xp,simprocAttr] at hf;simp only [xf,simprocAttr] at hf)
 refine ah ?_
 refine aj amQ (fun hc =>?_) (fun hc =>?_)
 ·have hn:xs≠ys:=fun e=>by simp [e] at hc
  refine ah ?_
  refine bV ?_
  rw [decide_eq_false hn]
 have hl:xs.length=ys.length:=by simp at hc;omega
 refine ah ?_
 refine au (α:=Nat) (fun k=>[(5,true,.int k)]) [0,1] (fun _=>[]) (fun k=>k<=xs.length/\xs.take k=ys.take k) (fun k=>xs.length-k) 0 (by exact dQ) ⟨Nat.zero_le _,rfl⟩ fun k hk =>?_
 obtain ⟨hk,hp⟩:=hk
 simp only [xr,simprocAttr]
 refine ah ?_
 refine aj amQ (fun hd =>?_) (fun hd =>?_)
 ·have hk':k<xs.length:=by simpa using hd
  have hky:k<ys.length:=by omega
  refine ah ?_
  refine aj amQ (fun he =>?_) (fun he =>?_)
  ·have hn:xs≠ys:=fun e=>by simp [e] at he
   refine ah ?_
   refine bV ?_
   rw [decide_eq_false hn]
  ·refine ah ?_
   refine ⟨k+1,by omega,?_,by omega,.inl ?_⟩
   ·have h2:xs.getD k 0=ys.getD k 0:=by simpa using he
    rw [List.take_succ_eq_append_getElem hk',List.take_succ_eq_append_getElem hky,hp,← getD_in (d:=0) hk',← getD_in (d:=0) hky,h2]
   ·exact dQ
 ·have hk':k=xs.length:=by simp at hd;omega
  subst hk'
  have he:xs=ys:=by rw [List.take_length,hl,List.take_length] at hp;exact hp
  refine ah ?_
  refine bV ?_
  rw [decide_eq_true he]
theorem IU (xs ys:List Int):Does Tryz.prog 145 [.sl (.ints xs),.sl (.ints ys)] (.imm (.bool (decide (xs=ys)))):=by
 refine aC Tryz.func145 rfl Tryz.ntmps145 aX (fun _ _=>by kernel_rfl) rfl (Nat.le_of_ble_eq_true rfl) ?_
 intro M0 w0
 rw [Tryz.results145]
 (refine dJ 0 rfl fun hf =>?_;simp only [xp,simprocAttr] at hf;simp only [xf,simprocAttr] at hf)
 refine ah ?_
 refine aj amQ (fun hc =>?_) (fun hc =>?_)
 ·have hn:xs≠ys:=fun e=>by simp [e] at hc
  refine ah ?_
  refine bV ?_
  rw [decide_eq_false hn]
 have hl:xs.length=ys.length:=by simp at hc;omega
 refine ah ?_
 refine au (α:=Nat) (fun k=>[(13,true,.int k)]) [0,1,11,12] (fun _=>[]) (fun k=>k<=xs.length/\xs.take k=ys.take k) (fun k=>xs.length-k) 0 (by exact dQ) ⟨Nat.zero_le _,rfl⟩ fun k hk =>?_
 obtain ⟨hk,hp⟩:=hk
 simp only [xr,simprocAttr]
 refine ah ?_
 refine aj amQ (fun hd =>?_) (fun hd =>?_)
 ·have hk':k<xs.length:=by simpa using hd
  have hky:k<ys.length:=by omega
  refine ah ?_
  refine aj amQ (fun he =>?_) (fun he =>?_)
  ·have hn:xs≠ys:=fun e=>by simp [e] at he
   refine ah ?_
   refine bV ?_
   rw [decide_eq_false hn]
  ·refine ah ?_
   refine ⟨k+1,by omega,?_,by omega,.inl ?_⟩
   ·have h2:xs.getD k 0=ys.getD k 0:=by simpa using he
    rw [List.take_succ_eq_append_getElem hk',List.take_succ_eq_append_getElem hky,hp,← getD_in (d:=0) hk',← getD_in (d:=0) hky,h2]
   ·exact dQ
 ·have hk':k=xs.length:=by simp at hd;omega
  subst hk'
  have he:xs=ys:=by rw [List.take_length,hl,List.take_length] at hp;exact hp
  refine ah ?_
  refine bV ?_
  rw [decide_eq_true he]
theorem Rh (l:List (List Int)) (w:List Int):Does Tryz.prog 166 [.sl (.ii l),.sl (.ints w)] (.imm (.int (eF l w))):=by
 refine aC Tryz.func166 rfl Tryz.ntmps166 aX (fun _ _=>by kernel_rfl) rfl (Nat.le_of_ble_eq_true rfl) ?_
 intro M0 w0
 rw [Tryz.results166]
 (refine dJ 0 rfl fun hf =>?_;simp only [xp,simprocAttr] at hf;simp only [xf,simprocAttr] at hf)
 refine ah ?_
 refine au (α:=Nat) (fun k=>[(5,true,.int k)]) [0,1] (fun _=>[]) (fun k=>k<=l.length/\∀ x∈l.take k,decide (x=w)=false) (fun k=>l.length-k) 0 (by exact dQ) ⟨Nat.zero_le _,by simp⟩ fun k hk =>?_
 obtain ⟨hk,hp⟩:=hk
 simp only [xr,simprocAttr]
 refine ah ?_
 refine aj amQ (fun hc =>?_) (fun hc =>?_)
 ·have hk':k<l.length:=by simpa using hc
  refine ah ?_
  ((try refine Or.inl ?_);refine ⟨_,(U8 _ _),.inl rfl,?_⟩;refine amC ?_)
  refine aj amQ (fun hd =>?_) (fun hd =>?_)
  ·have e:eF l w=k:=fZ hk' (by rw [← getD_in (d:=[]) hk'];exact hd) hp
   refine ah ?_
   refine bV ?_
   rw [e]
  ·refine ah ?_
   refine ⟨k+1,by omega,fun x hx' =>?_,by omega,.inl ?_⟩
   ·rw [List.take_succ_eq_append_getElem hk',List.mem_append,List.mem_singleton] at hx'
    rcases hx' with hx' | rfl
    ·exact hp x hx'
    ·rw [← getD_in (d:=[]) hk'];exact hd
   ·exact dQ
 ·have hk':k=l.length:=by simp at hc;omega
  subst hk'
  rw [List.take_length] at hp
  have e:eF l w = -1:=gW hp
  refine ah ?_
  refine bV ?_
  rw [e]
theorem Ny {w:List Int} {a:Int} {k:Nat} (h:k<w.length):(lessM w a).take (k+1)=(lessM w a).take k++[w.getD k 0-a]:=by
 rw [eH (by rw [kJ];exact h) 0,yc h]
theorem Dl {m:List (List Int)} {B:Int} (w:List Int) (hw:kW m w B) (hB:B<=2000000) (hm:0<m.length) (hm4:m.length<=1000) :
  Does Tryz.prog 164 [.sl (.ints w)] (.imm (.tup [.one (.b (.sl (.ints (lessM w (fH w (m.length-1)))))),.one (.b (.val (.int .i64 (fH w (m.length-1)))))])):=by
 have hl:=hw.len
 have hb:=uG hw (m.length-1) (by omega)
 refine aC Tryz.func164 rfl Tryz.ntmps164 aX (fun _ _=>by kernel_rfl) rfl (Nat.le_of_ble_eq_true rfl) ?_
 intro M0 w0
 rw [Tryz.results164]
 refine ah ?_
 ((try refine Or.inl ?_);refine ⟨_,(FZ w (by intro e;rw [e] at hl;simp at hl;omega)),.inl rfl,?_⟩;refine amC ?_)
 rw [hl]
 refine ah ?_
 refine au (α:=Nat) (fun k=>[(6,true,.int k)]) [0,4,5] (fun k=>[.row 3 (.ints ((lessM w (fH w (m.length-1))).take k))]) (fun k=>k<=m.length) (fun k=>m.length-k) 0 (by exact bI (by simp)) (Nat.zero_le _) fun k hk =>?_
 have hsl:((lessM w (fH w (m.length-1))).take k).length=k:=by rw [List.length_take,kJ];omega
 simp only [xr,simprocAttr]
 refine ah ?_
 refine aj amQ (fun hc =>?_) (fun hc =>?_)
 ·have hc:=of_decide_eq_true hc
  have hk':k<m.length:=by omega
  have h1:=hw.at_ k hk'
  refine ah ?_
  refine ⟨k+1,by omega,by omega,.inl ?_⟩
  exact bI (by rw [Ny (by omega)])
 ·have hc:=of_decide_eq_false hc
  have hk':k=m.length:=by omega
  subst hk'
  rw [List.take_of_length_le (by rw [kJ];omega)]
  refine kY ?_
  (refine aU 0 rfl ?_;simp only [xz,simprocAttr])
  refine ah ?_
  (simp only [xe,simprocAttr];refine ⟨[_,_],⟨rfl,rfl,trivial⟩,rfl,Imp.eq ?_⟩)
  rfl
def jk (t:bW) (b:Bool):AV := .tv (.agg [.b (.sl (.ii t.list)),.b (.sl (.ii t.next)),.b (.sl (.ii t.grows)),.b (.val (.bool b))])
theorem Nw {m s:List (List Int)} {w:List Int} {B:Int} (hp:aO m s=true) (hw:kW m w B) (hB:B<=1000000) {r:Nat} (hr:r<s.length):Does Tryz.prog 164 [.sl (.ints (gY m s w r))] (.imm (.tup [.one (.b (.sl (.ints (iP m s w r)))),.one (.b (.val (.int .i64 (iV m s w r))))])):=by
 have hl:=aQ hp
 exact Dl (gY m s w r) (yu hp hw hB hr) (by omega) (by omega) (by omega)
set_option maxHeartbeats 2000000 in
theorem AX (m s:List (List Int)) (x:Nat) (hp:aO m s=true) (hx:x<m.length):Does Tryz.prog 129 [prA m s,.int x] (.imm (jk (gV m s x).1 (gV m s x).2)):=by
 have hl:=aQ hp
 have hx1:=iH hp hx
 have hw0:kW m (m.getD x []) 99:=⟨hx1.1,hx1.2⟩
 refine aC Tryz.func129 rfl Tryz.ntmps129 aX (fun _ _=>by kernel_rfl) rfl (Nat.le_of_ble_eq_true rfl) ?_
 intro M0 w0
 rw [Tryz.results129]
 refine ah ?_
 ((try refine Or.inl ?_);refine ⟨_,(Dl (m.getD x []) hw0 (by omega) (by omega) (by omega)),amF,?_⟩;refine amC ?_)
 rw [Uu hp hx]
 (refine amB ?_;refine kZ [false,true] ?_;refine amN ?_)
 (refine iZ 3 1 29 (.ii []) rfl rfl rfl (by first | trivial | (intro _ h;cases h)) ?_;simp only [xr,simprocAttr])
 (refine iZ 3 2 29 (.ii []) rfl rfl rfl (by first | trivial | (intro _ h;cases h)) ?_;simp only [xr,simprocAttr])
 refine ah ?_
 refine au (α:=Nat) (fun i=>[(8,true,.int i)]) [2,4,7] (fun i=>[.box [.b (.sl (.ii m)),.b (.sl (.ii s))],.box [.b (.val (.slice none 0 0)),.b (.val (.slice none 0 0)),.b (.val (.slice none 0 0)),.b (.val (.bool false))],.row 29 (.ii (aP m s x i).list),.box [.own 2,.own 4,.own 5,.b (.val (.bool false))],.row 29 (.ii (aP m s x i).next),.row 29 (.ii (aP m s x i).grows)]) (vJ m s x) (fun i=>401-i) 0 (by exact aV) (vJ.first m s x) fun i hi =>?_
 have hile:=hi.le
 have hlen:=hi.len
 have hok:=yA hp hx i (by omega) hi.lt
 have hnl:=hok.nlen
 have hgl:=hok.glen
 simp only [xr,simprocAttr]
 refine ah ?_
 refine aj amQ (fun hc =>?_) (fun hc =>?_)
 ·have hc:=of_decide_eq_true hc
  have hlt:i<(aP m s x i).list.length:=by omega
  have hw:=Iy hok hlt
  refine ah ?_
  refine au (α:=Nat) (fun r=>[(11,true,.int r)]) [2,4,7,8,9,10] (fun r=>[.box [.b (.sl (.ii m)),.b (.sl (.ii s))],.box [.b (.val (.slice none 0 0)),.b (.val (.slice none 0 0)),.b (.val (.slice none 0 0)),.b (.val (.bool false))],.row 29 (.ii (bU m s ((aP m s x i).list.getD i []) (aP m s x i).list r)),.box [.own 2,.own 4,.own 5,.b (.val (.bool false))],.row 29 (.ii (aP m s x i).next),.row 29 (.ii (aP m s x i).grows),.row 3 (.ints (zJ m s ((aP m s x i).list.getD i []) (aP m s x i).list r)),.row 3 (.ints (oO m s ((aP m s x i).list.getD i []) r))]) (fun r=>r<=s.length) (fun r=>s.length-r) 0 (by exact aV) (Nat.zero_le _) fun r hr =>?_
  have hol:=lH m s ((aP m s x i).list.getD i []) (aP m s x i).list r
  have hon:=DR m s ((aP m s x i).list.getD i []) (aP m s x i).list r
  have hog:=zI m s ((aP m s x i).list.getD i []) r
  simp only [xr,simprocAttr]
  refine ah ?_
  refine aj amQ (fun hd =>?_) (fun hd =>?_)
  ·have hd:=of_decide_eq_true hd
   have hr':r<s.length:=by omega
   refine ah ?_
   rw [tu hlt r]
   ((try refine Or.inl ?_);refine ⟨_,(Va m s ((aP m s x i).list.getD i []) _ r hp hw (by omega) hr'),amF,?_⟩;refine amC ?_)
   ((try refine Or.inl ?_);refine ⟨_,(Nw hp hw (by omega) hr'),amF,?_⟩;refine amC ?_)
   refine ah ?_
   ((try refine Or.inl ?_);refine ⟨_,(Rh _ _),.inl rfl,?_⟩;refine amC ?_)
   refine ah ?_
   refine aj amQ (fun he =>?_) (fun he =>?_)
   ·have he:=of_decide_eq_true he
    refine ah ?_
    refine ⟨r+1,by omega,by omega,.inl ?_⟩
    exact bI (by simp only [bU,jP,oD,uJ,qQ,if_pos he])
   ·have he:=of_decide_eq_false he
    refine ah ?_
    refine ⟨r+1,by omega,by omega,.inl ?_⟩
    exact bI (by simp only [bU,jP,oD,uJ,qQ,if_neg he])
  ·have hd:=of_decide_eq_false hd
   have hr':r=s.length:=by omega
   subst hr'
   refine amB ?_
   (refine aU 6 rfl ?_;simp only [xz,simprocAttr])
   (refine aU 7 rfl ?_;simp only [xz,simprocAttr])
   refine ah ?_
   refine aj amQ (fun hg =>?_) (fun hg =>?_)
   ·have hg:=of_decide_eq_true hg
    have hbig:400<(aP m s x (i+1)).list.length:=by show 400<(bU m s _ _ s.length).length;omega
    refine kY ?_
    (refine aU 2 rfl ?_;simp only [xz,simprocAttr])
    (refine aU 4 rfl ?_;simp only [xz,simprocAttr])
    (refine aU 5 rfl ?_;simp only [xz,simprocAttr])
    refine ah ?_
    (simp only [xec,simprocAttr];refine ⟨_,⟨amK,rfl⟩,rfl,Imp.eq ?_⟩)
    rw [hi.large hlt hbig]
    rfl
   ·have hg:=of_decide_eq_false hg
    have hbig:¬ 400<(aP m s x (i+1)).list.length:=by show ¬ 400<(bU m s _ _ s.length).length;omega
    refine ah ?_
    refine ⟨i+1,hi.next hlt hbig,by omega,.inr ⟨6,Nat.le_of_ble_eq_true rfl,aJ ?_ rfl rfl rfl⟩⟩
    exact aV
 ·have hc:=of_decide_eq_false hc
  refine kY ?_
  (refine aU 2 rfl ?_;simp only [xz,simprocAttr])
  (refine aU 4 rfl ?_;simp only [xz,simprocAttr])
  (refine aU 5 rfl ?_;simp only [xz,simprocAttr])
  refine ah ?_
  (simp only [xec,simprocAttr];refine ⟨_,⟨amK,rfl⟩,rfl,Imp.eq ?_⟩)
  rw [hi.done (by omega)]
  rfl
def kK (v:List Int) (a:Int) (j:Nat):List Int:=(List.range v.length).map fun (k:Nat)=>if k<j then v.getD k 0-a else v.getD k 0
theorem wF (v:List Int) (a:Int) (j:Nat):(kK v a j).length=v.length:=by simp [kK]
theorem Vm (v:List Int) (a:Int):kK v a 0=v:=by
 refine List.ext_getElem (wF v a 0) fun j h1 h2 =>?_
 simp [kK,h2]
theorem Nz (v:List Int) (a:Int):kK v a v.length=lessM v a:=by
 refine List.ext_getElem (by rw [wF,kJ]) fun j h1 h2 =>?_
 rw [kJ] at h2
 simp [kK,lessM,h2]
theorem Rn {v:List Int} {a:Int} {j:Nat} (h:j<v.length):(kK v a j).getD j 0=v.getD j 0:=by
 unfold kK
 rw [dK _ _ h,if_neg (Nat.lt_irrefl _)]
theorem NC (v:List Int) (a:Int) (j:Nat):(kK v a j).set j (v.getD j 0-a)=kK v a (j+1):=by
 unfold kK
 rw [yF]
 refine iW fun k _ =>?_
 by_cases e:k=j
 ·subst e
  rw [if_pos rfl,if_pos (by omega)]
 ·rw [if_neg e]
  by_cases h:k<j
  ·rw [if_pos h,if_pos (by omega)]
  ·rw [if_neg h,if_neg (by omega)]
theorem NW (own w:List Int):Does Tryz.prog 144 [.sl (.ints own),.lf (.ip [.sl (.ints w)] 0)] (.imm (.bool (decide (own=w)))):=by
 refine aC Tryz.func144 rfl Tryz.ntmps144 aX (fun _ _=>by kernel_rfl) rfl (Nat.le_of_ble_eq_true rfl) ?_
 intro M0 w0
 rw [Tryz.results144]
 refine ah ?_
 ((try refine Or.inl ?_);refine ⟨_,(IU _ _),.inl rfl,?_⟩;refine amC ?_)
 refine ah ?_
 refine bV ?_
 rfl
def aag (q:bW×Bool):AV:=bif q.2 then .tup [.one (.b (.val (.slice none 0 0))),.one (.b (.val (.slice none 0 0))),.one (.b (.val (.slice none 0 0))),.one (.b (.val (.bool false)))] else .tup [.one (.b (.sl (.ii q.1.list))),.one (.b (.sl (.ii q.1.next))),.one (.b (.sl (.ii q.1.grows))),.one (.b (.val (.bool true)))]
set_option maxHeartbeats 2000000 in
theorem Gj (m s:List (List Int)) (x:Nat) (hp:aO m s=true) (hx:x<m.length):Does Tryz.prog 92 [prA m s,.int x] (.imm (aag (gV m s x))):=by
 have hl:=aQ hp
 have hx1:=iH hp hx
 refine aC Tryz.func92 rfl Tryz.ntmps92 aX (fun _ _=>by kernel_rfl) rfl (Nat.le_of_ble_eq_true rfl) ?_
 intro M0 w0
 rw [Tryz.results92]
 refine amB ?_
 refine SS ?_
 (refine amB ?_;refine kZ [false,false,false,false,false,false,true] ?_;refine amN ?_)
 ((try refine Or.inl ?_);refine ⟨_,(XI _ (by omega) (by omega)),amF,?_⟩;refine amC ?_)
 refine ah ?_
 refine au (α:=Nat) (fun i=>[(11,true,.int i)]) [2,8,9,10] (fun i=>[.box [.b (.sl (.ii m)),.b (.sl (.ii s))],.row 29 (.ii (aP m s x i).list),.row 29 (.ii (aP m s x i).next),.row 29 (.ii (aP m s x i).grows)]) (vJ m s x) (fun i=>401-i) 0 (by exact aV) (vJ.first m s x) fun i hi =>?_
 have hile:=hi.le
 have hlen:=hi.len
 have hok:=yA hp hx i (by omega) hi.lt
 have hnl:=hok.nlen
 have hgl:=hok.glen
 simp only [xr,simprocAttr]
 refine ah ?_
 refine aj amQ (fun hc =>?_) (fun hc =>?_)
 ·have hc:=of_decide_eq_true hc
  have hlt:i<(aP m s x i).list.length:=by omega
  have hw:=Iy hok hlt
  refine ah ?_
  refine au (α:=Nat) (fun r=>[(39,true,.int r)]) [2,8,9,10,11,12,13,38] (fun r=>[.box [.b (.sl (.ii m)),.b (.sl (.ii s))],.row 29 (.ii (bU m s ((aP m s x i).list.getD i []) (aP m s x i).list r)),.row 29 (.ii (aP m s x i).next),.row 29 (.ii (aP m s x i).grows),.row 3 (.ints (zJ m s ((aP m s x i).list.getD i []) (aP m s x i).list r)),.row 3 (.ints (oO m s ((aP m s x i).list.getD i []) r))]) (fun r=>r<=s.length) (fun r=>s.length-r) 0 (by exact aV) (Nat.zero_le _) fun r hr =>?_
  have hol:=lH m s ((aP m s x i).list.getD i []) (aP m s x i).list r
  have hon:=DR m s ((aP m s x i).list.getD i []) (aP m s x i).list r
  have hog:=zI m s ((aP m s x i).list.getD i []) r
  simp only [xr,simprocAttr]
  refine ah ?_
  refine aj amQ (fun hd =>?_) (fun hd =>?_)
  ·have hd:=of_decide_eq_true hd
   have hr':r<s.length:=by omega
   have hgt:=tu hlt (m:=m) (s:=s) (w:=(aP m s x i).list.getD i []) r
   have hnx:=yu hp hw (by omega) hr'
   have hnxl:=hnx.len
   refine ah ?_
   ((repeat (first | refine g1 ?_ | refine g2 ?_ | ((first | refine g3 ?_ | refine g4 ?_);try simp only [xq,simprocAttr])));refine Tf [true,true,true,true,true,true] (by kernel_rfl) (by kernel_rfl) rfl rfl ⟨rfl,rfl,rfl⟩ ⟨rfl,rfl,rfl⟩ ⟨rfl,rfl,rfl⟩ rfl ⟨rfl,rfl⟩ ⟨by simp only [xr,simprocAttr],by simp only [xr,simprocAttr]⟩ ⟨by kernel_rfl,by kernel_rfl⟩ ?_;simp (maxSteps:=3000000) only [xr,simprocAttr];repeat (guard_target =~ _/\_;refine ⟨by first | with_reducible assumption | (guard_target =~ (_:Int)<=_;omega) | (guard_target =~ (_:Int)<_;omega) | (guard_target =~ (_:Nat)<_;omega) | (guard_target =~ (_:Nat)<=_;omega) | (guard_target =~ (_:Int)=_;omega) | (unfold I64;omega) | trivial | omega | (simp<;>omega) | (intros;omega),?_⟩))
   rw [hgt]
   (refine ⟨_,_,adh (NS m s ((aP m s x i).list.getD i []) _ r hp hw (by omega) hr') rfl rfl rfl rfl rfl,?_⟩;refine amC ?_)
   refine ah ?_
   ((try refine Or.inl ?_);refine ⟨_,(Ol (gY m s ((aP m s x i).list.getD i []) r) (by intro e;rw [e] at hnxl;simp at hnxl;omega)),.inl rfl,?_⟩;refine amC ?_)
   rw [hnxl]
   refine ah ?_
   have hgd:fH (gY m s ((aP m s x i).list.getD i []) r) (m.length-1)=iV m s ((aP m s x i).list.getD i []) r:=rfl
   rw [hgd]
   have hgb:=Iw hp hw (by omega) hr' (by omega)
   refine au (α:=Nat) (fun j=>[(53,true,.int j)]) [2,8,9,10,11,12,13,14,15,16,38,39,52] (fun j=>[.box [.b (.sl (.ii m)),.b (.sl (.ii s))],.row 29 (.ii (bU m s ((aP m s x i).list.getD i []) (aP m s x i).list r)),.row 29 (.ii (aP m s x i).next),.row 29 (.ii (aP m s x i).grows),.row 3 (.ints (zJ m s ((aP m s x i).list.getD i []) (aP m s x i).list r)),.row 3 (.ints (oO m s ((aP m s x i).list.getD i []) r)),.box [.own 7],.row 3 (.ints (kK (gY m s ((aP m s x i).list.getD i []) r) (iV m s ((aP m s x i).list.getD i []) r) j))]) (fun j=>j<=m.length) (fun j=>m.length-j) 0 (by exact bI (by rw [Vm])) (Nat.zero_le _) fun j hj =>?_
   have hll:=wF (gY m s ((aP m s x i).list.getD i []) r) (iV m s ((aP m s x i).list.getD i []) r) j
   simp only [xr,simprocAttr]
   refine ah ?_
   refine aj amQ (fun he =>?_) (fun he =>?_)
   ·have he:=of_decide_eq_true he
    have hj':j<m.length:=by omega
    have hat:=Rn (v:=gY m s ((aP m s x i).list.getD i []) r) (a:=iV m s ((aP m s x i).list.getD i []) r) (j:=j) (by omega)
    have hst:=NC (gY m s ((aP m s x i).list.getD i []) r) (iV m s ((aP m s x i).list.getD i []) r) j
    have hnb:=hnx.at_ j hj'
    refine ah ?_
    rw [hat]
    refine amS ?_
    refine ah ?_
    refine ⟨j+1,by omega,by omega,.inl ?_⟩
    exact bI (by rw [← hst])
   ·have he:=of_decide_eq_false he
    have hj':j=m.length:=by omega
    subst hj'
    refine amB ?_
    rw [show kK (gY m s ((aP m s x i).list.getD i []) r) (iV m s ((aP m s x i).list.getD i []) r) m.length=iP m s ((aP m s x i).list.getD i []) r by rw [← hnxl];exact Nz _ _]
    (refine aU 7 rfl ?_;simp only [xz,simprocAttr])
    refine ah ?_
    ((try refine Or.inl ?_);refine ⟨_,(vw _ _ [.ip [.sl (.ints (iP m s ((aP m s x i).list.getD i []) r))] 0] (fun own=>decide (own=iP m s ((aP m s x i).list.getD i []) r)) rfl fun k hk=>NW _ _),.inl rfl,?_⟩;refine amC ?_)
    refine ah ?_
    refine aj amQ (fun hk =>?_) (fun hk =>?_)
    ·have hk:eF (bU m s ((aP m s x i).list.getD i []) (aP m s x i).list r) (iP m s ((aP m s x i).list.getD i []) r)<0:=of_decide_eq_true hk
     refine ah ?_
     refine ⟨r+1,by omega,by omega,.inr ⟨6,Nat.le_of_ble_eq_true rfl,aJ ?_ rfl rfl rfl⟩⟩
     exact bI (by simp only [bU,jP,oD,uJ,qQ,if_pos hk];rfl)
    ·have hk:¬ eF (bU m s ((aP m s x i).list.getD i []) (aP m s x i).list r) (iP m s ((aP m s x i).list.getD i []) r)<0:=of_decide_eq_false hk
     refine ah ?_
     refine ⟨r+1,by omega,by omega,.inr ⟨6,Nat.le_of_ble_eq_true rfl,aJ ?_ rfl rfl rfl⟩⟩
     exact bI (by simp only [bU,jP,oD,uJ,qQ,if_neg hk];rfl)
  ·have hd:=of_decide_eq_false hd
   have hr':r=s.length:=by omega
   subst hr'
   refine amB ?_
   (refine aU 4 rfl ?_;simp only [xz,simprocAttr])
   (refine aU 5 rfl ?_;simp only [xz,simprocAttr])
   refine ah ?_
   refine aj amQ (fun hg =>?_) (fun hg =>?_)
   ·have hg:=of_decide_eq_true hg
    have hbig:400<(aP m s x (i+1)).list.length:=by show 400<(bU m s _ _ s.length).length;omega
    refine ah ?_
    (simp only [xe,simprocAttr];refine ⟨[_,_,_,_],⟨rfl,rfl,rfl,rfl,trivial⟩,rfl,Imp.eq ?_⟩)
    rw [hi.large hlt hbig]
    rfl
   ·have hg:=of_decide_eq_false hg
    have hbig:¬ 400<(aP m s x (i+1)).list.length:=by show ¬ 400<(bU m s _ _ s.length).length;omega
    refine ah ?_
    refine ⟨i+1,hi.next hlt hbig,by omega,.inr ⟨4,Nat.le_of_ble_eq_true rfl,aJ ?_ rfl rfl rfl⟩⟩
    exact aV
 ·have hc:=of_decide_eq_false hc
  refine kY ?_
  (refine aU 1 rfl ?_;simp only [xz,simprocAttr])
  (refine aU 2 rfl ?_;simp only [xz,simprocAttr])
  (refine aU 3 rfl ?_;simp only [xz,simprocAttr])
  refine ah ?_
  (simp only [xe,simprocAttr];refine ⟨[_,_,_,_],⟨rfl,rfl,rfl,rfl,trivial⟩,rfl,Imp.eq ?_⟩)
  rw [hi.done (by omega)]
  rfl
end Go.Proofs.YtkcelmnbfbehbaaGreat
