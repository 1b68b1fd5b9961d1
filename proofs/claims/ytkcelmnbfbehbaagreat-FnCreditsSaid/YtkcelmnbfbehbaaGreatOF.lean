/- Offsets on the machine: the reference's. Conditions: problems that are right. -/
import Derived.Test.YtkcelmnbfbehbaaGreatZGWI
set_option linter.all false
namespace Go.Proofs.YtkcelmnbfbehbaaGreat
open Go Go.RowKit Am
theorem KQ (xs ys:List Int):Does Tryz.prog 109 [.sl (.ints xs),.sl (.ints ys)] (.imm (.bool (decide (xs=ys)))):=by
 refine aF Tryz.func109 rfl Tryz.ntmps109 aP (fun _ _=>by kernel_rfl) rfl (Nat.le_of_ble_eq_true rfl) ?_
 intro M0 w0
 rw [Tryz.results109]
 (refine dB 0 rfl fun hf =>?_;simp only [xp,simprocAttr] at hf;simp only [xf,simprocAttr] at hf)
 refine ah ?_
 refine aj amQ (fun hc =>?_) (fun hc =>?_)
 ·have hn:xs≠ys:=fun e=>by simp [e] at hc
  refine ah ?_
  refine bI ?_
  rw [decide_eq_false hn]
 have hl:xs.length=ys.length:=by simp at hc;omega
 refine ah ?_
 refine aA (α:=Nat) (fun k=>[(5,true,.int k)]) [0,1] (fun _=>[]) (fun k=>k<=xs.length/\xs.take k=ys.take k) (fun k=>xs.length-k) 0 (by exact bY) ⟨Nat.zero_le _,rfl⟩ fun k hk =>?_
 obtain ⟨hk,hp⟩:=hk
 simp only [xr,simprocAttr]
 refine ah ?_
 refine aj amQ (fun hd =>?_) (fun hd =>?_)
 ·have hk':k<xs.length:=by simpa using hd
  have hky:k<ys.length:=by omega
  refine ah ?_
  refine aj amQ (fun he =>?_) (fun he =>?_)
  ·have hn:xs≠ys:=fun e=>by simp [e] at he
   refine ah ?_
   refine bI ?_
   rw [decide_eq_false hn]
  ·refine ah ?_
   refine ⟨k+1,by omega,?_,by omega,.inl ?_⟩
   ·have h2:xs.getD k 0=ys.getD k 0:=by simpa using he
    rw [List.take_succ_eq_append_getElem hk',List.take_succ_eq_append_getElem hky,hp,← getD_in (d:=0) hk',← getD_in (d:=0) hky,h2]
   ·exact bY
 ·have hk':k=xs.length:=by simp at hd;omega
  subst hk'
  have he:xs=ys:=by rw [List.take_length,hl,List.take_length] at hp;exact hp
  refine ah ?_
  refine bI ?_
  rw [decide_eq_true he]
theorem Jk (xs ys:List Int):Does Tryz.prog 145 [.sl (.ints xs),.sl (.ints ys)] (.imm (.bool (decide (xs=ys)))):=by
 refine aF Tryz.func145 rfl Tryz.ntmps145 aP (fun _ _=>by kernel_rfl) rfl (Nat.le_of_ble_eq_true rfl) ?_
 intro M0 w0
 rw [Tryz.results145]
 (refine dB 0 rfl fun hf =>?_;simp only [xp,simprocAttr] at hf;simp only [xf,simprocAttr] at hf)
 refine ah ?_
 refine aj amQ (fun hc =>?_) (fun hc =>?_)
 ·have hn:xs≠ys:=fun e=>by simp [e] at hc
  refine ah ?_
  refine bI ?_
  rw [decide_eq_false hn]
 have hl:xs.length=ys.length:=by simp at hc;omega
 refine ah ?_
 refine aA (α:=Nat) (fun k=>[(13,true,.int k)]) [0,1,11,12] (fun _=>[]) (fun k=>k<=xs.length/\xs.take k=ys.take k) (fun k=>xs.length-k) 0 (by exact bY) ⟨Nat.zero_le _,rfl⟩ fun k hk =>?_
 obtain ⟨hk,hp⟩:=hk
 simp only [xr,simprocAttr]
 refine ah ?_
 refine aj amQ (fun hd =>?_) (fun hd =>?_)
 ·have hk':k<xs.length:=by simpa using hd
  have hky:k<ys.length:=by omega
  refine ah ?_
  refine aj amQ (fun he =>?_) (fun he =>?_)
  ·have hn:xs≠ys:=fun e=>by simp [e] at he
   refine ah ?_
   refine bI ?_
   rw [decide_eq_false hn]
  ·refine ah ?_
   refine ⟨k+1,by omega,?_,by omega,.inl ?_⟩
   ·have h2:xs.getD k 0=ys.getD k 0:=by simpa using he
    rw [List.take_succ_eq_append_getElem hk',List.take_succ_eq_append_getElem hky,hp,← getD_in (d:=0) hk',← getD_in (d:=0) hky,h2]
   ·exact bY
 ·have hk':k=xs.length:=by simp at hd;omega
  subst hk'
  have he:xs=ys:=by rw [List.take_length,hl,List.take_length] at hp;exact hp
  refine ah ?_
  refine bI ?_
  rw [decide_eq_true he]
theorem Si (l:List (List Int)) (w:List Int):Does Tryz.prog 166 [.sl (.ii l),.sl (.ints w)] (.imm (.int (fZ l w))):=by
 refine aF Tryz.func166 rfl Tryz.ntmps166 aP (fun _ _=>by kernel_rfl) rfl (Nat.le_of_ble_eq_true rfl) ?_
 intro M0 w0
 rw [Tryz.results166]
 (refine dB 0 rfl fun hf =>?_;simp only [xp,simprocAttr] at hf;simp only [xf,simprocAttr] at hf)
 refine ah ?_
 refine aA (α:=Nat) (fun k=>[(5,true,.int k)]) [0,1] (fun _=>[]) (fun k=>k<=l.length/\∀ x∈l.take k,decide (x=w)=false) (fun k=>l.length-k) 0 (by exact bY) ⟨Nat.zero_le _,by simp⟩ fun k hk =>?_
 obtain ⟨hk,hp⟩:=hk
 simp only [xr,simprocAttr]
 refine ah ?_
 refine aj amQ (fun hc =>?_) (fun hc =>?_)
 ·have hk':k<l.length:=by simpa using hc
  refine ah ?_
  ((try refine Or.inl ?_);refine ⟨_,(KQ _ _),.inl rfl,?_⟩;refine amC ?_)
  refine aj amQ (fun hd =>?_) (fun hd =>?_)
  ·have e:fZ l w=k:=gK hk' (by rw [← getD_in (d:=[]) hk'];exact hd) hp
   refine ah ?_
   refine bI ?_
   rw [e]
  ·refine ah ?_
   refine ⟨k+1,by omega,fun x hx' =>?_,by omega,.inl ?_⟩
   ·rw [List.take_succ_eq_append_getElem hk',List.mem_append,List.mem_singleton] at hx'
    rcases hx' with hx' | rfl
    ·exact hp x hx'
    ·rw [← getD_in (d:=[]) hk'];exact hd
   ·exact bY
 ·have hk':k=l.length:=by simp at hc;omega
  subst hk'
  rw [List.take_length] at hp
  have e:fZ l w = -1:=gJ hp
  refine ah ?_
  refine bI ?_
  rw [e]
theorem NQ {w:List Int} {a:Int} {k:Nat} (h:k<w.length):(lessM w a).take (k+1)=(lessM w a).take k++[w.getD k 0-a]:=by
 rw [bD (by rw [kD];exact h) 0,yF h]
theorem Ef {m:List (List Int)} {B:Int} (w:List Int) (hw:jq m w B) (hB:B<=2000000) (hm:0<m.length) (hm4:m.length<=1000) :
  Does Tryz.prog 164 [.sl (.ints w)] (.imm (.tup [.one (.b (.sl (.ints (lessM w (dw w (m.length-1)))))),.one (.b (.val (.int .i64 (dw w (m.length-1)))))])):=by
 have hl:=hw.len
 have hb:=mQ hw (m.length-1) (by omega)
 refine aF Tryz.func164 rfl Tryz.ntmps164 aP (fun _ _=>by kernel_rfl) rfl (Nat.le_of_ble_eq_true rfl) ?_
 intro M0 w0
 rw [Tryz.results164]
 refine ah ?_
 ((try refine Or.inl ?_);refine ⟨_,(GK w (by intro e;rw [e] at hl;simp at hl;omega)),.inl rfl,?_⟩;refine amC ?_)
 rw [hl]
 refine ah ?_
 refine aA (α:=Nat) (fun k=>[(6,true,.int k)]) [0,4,5] (fun k=>[.row 3 (.ints ((lessM w (dw w (m.length-1))).take k))]) (fun k=>k<=m.length) (fun k=>m.length-k) 0 (by exact bV (by simp)) (Nat.zero_le _) fun k hk =>?_
 have hsl:((lessM w (dw w (m.length-1))).take k).length=k:=by rw [List.length_take,kD];omega
 simp only [xr,simprocAttr]
 refine ah ?_
 refine aj amQ (fun hc =>?_) (fun hc =>?_)
 ·have hc:=of_decide_eq_true hc
  have hk':k<m.length:=by omega
  have h1:=hw.at_ k hk'
  refine ah ?_
  refine ⟨k+1,by omega,by omega,.inl ?_⟩
  exact bV (by rw [NQ (by omega)])
 ·have hc:=of_decide_eq_false hc
  have hk':k=m.length:=by omega
  subst hk'
  rw [List.take_of_length_le (by rw [kD];omega)]
  refine jd ?_
  (refine aN 0 rfl ?_;simp only [xz,simprocAttr])
  refine ah ?_
  (simp only [xe,simprocAttr];refine ⟨[_,_],⟨rfl,rfl,trivial⟩,rfl,Imp.eq ?_⟩)
  rfl
def jr (t:dF) (b:Bool):AV := .tv (.agg [.b (.sl (.ii t.list)),.b (.sl (.ii t.next)),.b (.sl (.ii t.grows)),.b (.val (.bool b))])
theorem NP {m s:List (List Int)} {w:List Int} {B:Int} (hp:bg m s=true) (hw:jq m w B) (hB:B<=1000000) {r:Nat} (hr:r<s.length):Does Tryz.prog 164 [.sl (.ints (fO m s w r))] (.imm (.tup [.one (.b (.sl (.ints (iH m s w r)))),.one (.b (.val (.int .i64 (iR m s w r))))])):=by
 have hl:=bC hp
 exact Ef (fO m s w r) (tK hp hw hB hr) (by omega) (by omega) (by omega)
set_option maxHeartbeats 2000000 in
theorem Qj (m s:List (List Int)) (x:Nat) (hp:bg m s=true) (hx:x<m.length):Does Tryz.prog 129 [prA m s,.int x] (.imm (jr (jm m s x).1 (jm m s x).2)):=by
 have hl:=bC hp
 have hx1:=gY hp hx
 have hw0:jq m (m.getD x []) 99:=⟨hx1.1,hx1.2⟩
 refine aF Tryz.func129 rfl Tryz.ntmps129 aP (fun _ _=>by kernel_rfl) rfl (Nat.le_of_ble_eq_true rfl) ?_
 intro M0 w0
 rw [Tryz.results129]
 refine ah ?_
 ((try refine Or.inl ?_);refine ⟨_,(Ef (m.getD x []) hw0 (by omega) (by omega) (by omega)),amF,?_⟩;refine amC ?_)
 rw [UO hp hx]
 (refine amB ?_;refine sK [false,true] ?_;refine amN ?_)
 (refine kK 3 1 29 (.ii []) rfl rfl rfl (by first | trivial | (intro _ h;cases h)) ?_;simp only [xr,simprocAttr])
 (refine kK 3 2 29 (.ii []) rfl rfl rfl (by first | trivial | (intro _ h;cases h)) ?_;simp only [xr,simprocAttr])
 refine ah ?_
 refine aA (α:=Nat) (fun i=>[(8,true,.int i)]) [2,4,7] (fun i=>[.box [.b (.sl (.ii m)),.b (.sl (.ii s))],.box [.b (.val (.slice none 0 0)),.b (.val (.slice none 0 0)),.b (.val (.slice none 0 0)),.b (.val (.bool false))],.row 29 (.ii (aO m s x i).list),.box [.own 2,.own 4,.own 5,.b (.val (.bool false))],.row 29 (.ii (aO m s x i).next),.row 29 (.ii (aO m s x i).grows)]) (vS m s x) (fun i=>401-i) 0 (by exact bZ) (vS.first m s x) fun i hi =>?_
 have hile:=hi.le
 have hlen:=hi.len
 have hok:=yL hp hx i (by omega) hi.lt
 have hnl:=hok.nlen
 have hgl:=hok.glen
 simp only [xr,simprocAttr]
 refine ah ?_
 refine aj amQ (fun hc =>?_) (fun hc =>?_)
 ·have hc:=of_decide_eq_true hc
  have hlt:i<(aO m s x i).list.length:=by omega
  have hw:=I4 hok hlt
  refine ah ?_
  refine aA (α:=Nat) (fun r=>[(11,true,.int r)]) [2,4,7,8,9,10] (fun r=>[.box [.b (.sl (.ii m)),.b (.sl (.ii s))],.box [.b (.val (.slice none 0 0)),.b (.val (.slice none 0 0)),.b (.val (.slice none 0 0)),.b (.val (.bool false))],.row 29 (.ii (bW m s ((aO m s x i).list.getD i []) (aO m s x i).list r)),.box [.own 2,.own 4,.own 5,.b (.val (.bool false))],.row 29 (.ii (aO m s x i).next),.row 29 (.ii (aO m s x i).grows),.row 3 (.ints (Ah m s ((aO m s x i).list.getD i []) (aO m s x i).list r)),.row 3 (.ints (oN m s ((aO m s x i).list.getD i []) r))]) (fun r=>r<=s.length) (fun r=>s.length-r) 0 (by exact bZ) (Nat.zero_le _) fun r hr =>?_
  have hol:=lu m s ((aO m s x i).list.getD i []) (aO m s x i).list r
  have hon:=EC m s ((aO m s x i).list.getD i []) (aO m s x i).list r
  have hog:=Ag m s ((aO m s x i).list.getD i []) r
  simp only [xr,simprocAttr]
  refine ah ?_
  refine aj amQ (fun hd =>?_) (fun hd =>?_)
  ·have hd:=of_decide_eq_true hd
   have hr':r<s.length:=by omega
   refine ah ?_
   rw [tV hlt r]
   ((try refine Or.inl ?_);refine ⟨_,(Vr m s ((aO m s x i).list.getD i []) _ r hp hw (by omega) hr'),amF,?_⟩;refine amC ?_)
   ((try refine Or.inl ?_);refine ⟨_,(NP hp hw (by omega) hr'),amF,?_⟩;refine amC ?_)
   refine ah ?_
   ((try refine Or.inl ?_);refine ⟨_,(Si _ _),.inl rfl,?_⟩;refine amC ?_)
   refine ah ?_
   refine aj amQ (fun he =>?_) (fun he =>?_)
   ·have he:=of_decide_eq_true he
    refine ah ?_
    refine ⟨r+1,by omega,by omega,.inl ?_⟩
    exact bV (by simp only [bW,kQ,ug,uQ,qW,if_pos he])
   ·have he:=of_decide_eq_false he
    refine ah ?_
    refine ⟨r+1,by omega,by omega,.inl ?_⟩
    exact bV (by simp only [bW,kQ,ug,uQ,qW,if_neg he])
  ·have hd:=of_decide_eq_false hd
   have hr':r=s.length:=by omega
   subst hr'
   refine amB ?_
   (refine aN 6 rfl ?_;simp only [xz,simprocAttr])
   (refine aN 7 rfl ?_;simp only [xz,simprocAttr])
   refine ah ?_
   refine aj amQ (fun hg =>?_) (fun hg =>?_)
   ·have hg:=of_decide_eq_true hg
    have hbig:400<(aO m s x (i+1)).list.length:=by show 400<(bW m s _ _ s.length).length;omega
    refine jd ?_
    (refine aN 2 rfl ?_;simp only [xz,simprocAttr])
    (refine aN 4 rfl ?_;simp only [xz,simprocAttr])
    (refine aN 5 rfl ?_;simp only [xz,simprocAttr])
    refine ah ?_
    (simp only [xec,simprocAttr];refine ⟨_,⟨amK,rfl⟩,rfl,Imp.eq ?_⟩)
    rw [hi.large hlt hbig]
    rfl
   ·have hg:=of_decide_eq_false hg
    have hbig:¬ 400<(aO m s x (i+1)).list.length:=by show ¬ 400<(bW m s _ _ s.length).length;omega
    refine ah ?_
    refine ⟨i+1,hi.next hlt hbig,by omega,.inr ⟨6,Nat.le_of_ble_eq_true rfl,aS ?_ rfl rfl rfl⟩⟩
    exact bZ
 ·have hc:=of_decide_eq_false hc
  refine jd ?_
  (refine aN 2 rfl ?_;simp only [xz,simprocAttr])
  (refine aN 4 rfl ?_;simp only [xz,simprocAttr])
  (refine aN 5 rfl ?_;simp only [xz,simprocAttr])
  refine ah ?_
  (simp only [xec,simprocAttr];refine ⟨_,⟨amK,rfl⟩,rfl,Imp.eq ?_⟩)
  rw [hi.done (by omega)]
  rfl
def kE (v:List Int) (a:Int) (j:Nat):List Int:=(List.range v.length).map fun (k:Nat)=>if k<j then v.getD k 0-a else v.getD k 0
theorem wM (v:List Int) (a:Int) (j:Nat):(kE v a j).length=v.length:=by simp [kE]
theorem Vu (v:List Int) (a:Int):kE v a 0=v:=by
 refine List.ext_getElem (wM v a 0) fun j h1 h2 =>?_
 simp [kE,h2]
theorem NR (v:List Int) (a:Int):kE v a v.length=lessM v a:=by
 refine List.ext_getElem (by rw [wM,kD]) fun j h1 h2 =>?_
 rw [kD] at h2
 simp [kE,lessM,h2]
theorem Sl {v:List Int} {a:Int} {j:Nat} (h:j<v.length):(kE v a j).getD j 0=v.getD j 0:=by
 unfold kE
 rw [dN _ _ h,if_neg (Nat.lt_irrefl _)]
theorem NS (v:List Int) (a:Int) (j:Nat):(kE v a j).set j (v.getD j 0-a)=kE v a (j+1):=by
 unfold kE
 rw [ru]
 refine gZ fun k _ =>?_
 by_cases e:k=j
 ·subst e
  rw [if_pos rfl,if_pos (by omega)]
 ·rw [if_neg e]
  by_cases h:k<j
  ·rw [if_pos h,if_pos (by omega)]
  ·rw [if_neg h,if_neg (by omega)]
theorem Oi (own w:List Int):Does Tryz.prog 144 [.sl (.ints own),.lf (.ip [.sl (.ints w)] 0)] (.imm (.bool (decide (own=w)))):=by
 refine aF Tryz.func144 rfl Tryz.ntmps144 aP (fun _ _=>by kernel_rfl) rfl (Nat.le_of_ble_eq_true rfl) ?_
 intro M0 w0
 rw [Tryz.results144]
 refine ah ?_
 ((try refine Or.inl ?_);refine ⟨_,(Jk _ _),.inl rfl,?_⟩;refine amC ?_)
 refine ah ?_
 refine bI ?_
 rfl
def ZO (q:dF×Bool):AV:=bif q.2 then .tup [.one (.b (.val (.slice none 0 0))),.one (.b (.val (.slice none 0 0))),.one (.b (.val (.slice none 0 0))),.one (.b (.val (.bool false)))] else .tup [.one (.b (.sl (.ii q.1.list))),.one (.b (.sl (.ii q.1.next))),.one (.b (.sl (.ii q.1.grows))),.one (.b (.val (.bool true)))]
set_option maxHeartbeats 2000000 in
theorem G7 (m s:List (List Int)) (x:Nat) (hp:bg m s=true) (hx:x<m.length):Does Tryz.prog 92 [prA m s,.int x] (.imm (ZO (jm m s x))):=by
 have hl:=bC hp
 have hx1:=gY hp hx
 refine aF Tryz.func92 rfl Tryz.ntmps92 aP (fun _ _=>by kernel_rfl) rfl (Nat.le_of_ble_eq_true rfl) ?_
 intro M0 w0
 rw [Tryz.results92]
 refine amB ?_
 refine Ru ?_
 (refine amB ?_;refine sK [false,false,false,false,false,false,true] ?_;refine amN ?_)
 ((try refine Or.inl ?_);refine ⟨_,(Px _ (by omega) (by omega)),amF,?_⟩;refine amC ?_)
 refine ah ?_
 refine aA (α:=Nat) (fun i=>[(11,true,.int i)]) [2,8,9,10] (fun i=>[.box [.b (.sl (.ii m)),.b (.sl (.ii s))],.row 29 (.ii (aO m s x i).list),.row 29 (.ii (aO m s x i).next),.row 29 (.ii (aO m s x i).grows)]) (vS m s x) (fun i=>401-i) 0 (by exact bZ) (vS.first m s x) fun i hi =>?_
 have hile:=hi.le
 have hlen:=hi.len
 have hok:=yL hp hx i (by omega) hi.lt
 have hnl:=hok.nlen
 have hgl:=hok.glen
 simp only [xr,simprocAttr]
 refine ah ?_
 refine aj amQ (fun hc =>?_) (fun hc =>?_)
 ·have hc:=of_decide_eq_true hc
  have hlt:i<(aO m s x i).list.length:=by omega
  have hw:=I4 hok hlt
  refine ah ?_
  refine aA (α:=Nat) (fun r=>[(39,true,.int r)]) [2,8,9,10,11,12,13,38] (fun r=>[.box [.b (.sl (.ii m)),.b (.sl (.ii s))],.row 29 (.ii (bW m s ((aO m s x i).list.getD i []) (aO m s x i).list r)),.row 29 (.ii (aO m s x i).next),.row 29 (.ii (aO m s x i).grows),.row 3 (.ints (Ah m s ((aO m s x i).list.getD i []) (aO m s x i).list r)),.row 3 (.ints (oN m s ((aO m s x i).list.getD i []) r))]) (fun r=>r<=s.length) (fun r=>s.length-r) 0 (by exact bZ) (Nat.zero_le _) fun r hr =>?_
  have hol:=lu m s ((aO m s x i).list.getD i []) (aO m s x i).list r
  have hon:=EC m s ((aO m s x i).list.getD i []) (aO m s x i).list r
  have hog:=Ag m s ((aO m s x i).list.getD i []) r
  simp only [xr,simprocAttr]
  refine ah ?_
  refine aj amQ (fun hd =>?_) (fun hd =>?_)
  ·have hd:=of_decide_eq_true hd
   have hr':r<s.length:=by omega
   have hgt:=tV hlt (m:=m) (s:=s) (w:=(aO m s x i).list.getD i []) r
   have hnx:=tK hp hw (by omega) hr'
   have hnxl:=hnx.len
   refine ah ?_
   ((repeat (first | refine g1 ?_ | refine g2 ?_ | ((first | refine g3 ?_ | refine g4 ?_);try simp only [xq,simprocAttr])));refine TQ [true,true,true,true,true,true] (by kernel_rfl) (by kernel_rfl) rfl rfl ⟨rfl,rfl,rfl⟩ ⟨rfl,rfl,rfl⟩ ⟨rfl,rfl,rfl⟩ rfl ⟨rfl,rfl⟩ ⟨by simp only [xr,simprocAttr],by simp only [xr,simprocAttr]⟩ ⟨by kernel_rfl,by kernel_rfl⟩ ?_;simp (maxSteps:=3000000) only [xr,simprocAttr];repeat (guard_target =~ _/\_;refine ⟨by first | with_reducible assumption | (guard_target =~ (_:Int)<=_;omega) | (guard_target =~ (_:Int)<_;omega) | (guard_target =~ (_:Nat)<_;omega) | (guard_target =~ (_:Nat)<=_;omega) | (guard_target =~ (_:Int)=_;omega) | (unfold I64;omega) | trivial | omega | (simp<;>omega) | (intros;omega),?_⟩))
   rw [hgt]
   (refine ⟨_,_,acT (Ey m s ((aO m s x i).list.getD i []) _ r hp hw (by omega) hr') rfl rfl rfl rfl rfl,?_⟩;refine amC ?_)
   refine ah ?_
   ((try refine Or.inl ?_);refine ⟨_,(Fh (fO m s ((aO m s x i).list.getD i []) r) (by intro e;rw [e] at hnxl;simp at hnxl;omega)),.inl rfl,?_⟩;refine amC ?_)
   rw [hnxl]
   refine ah ?_
   have hgd:dw (fO m s ((aO m s x i).list.getD i []) r) (m.length-1)=iR m s ((aO m s x i).list.getD i []) r:=rfl
   rw [hgd]
   have hgb:=IZ hp hw (by omega) hr' (by omega)
   refine aA (α:=Nat) (fun j=>[(53,true,.int j)]) [2,8,9,10,11,12,13,14,15,16,38,39,52] (fun j=>[.box [.b (.sl (.ii m)),.b (.sl (.ii s))],.row 29 (.ii (bW m s ((aO m s x i).list.getD i []) (aO m s x i).list r)),.row 29 (.ii (aO m s x i).next),.row 29 (.ii (aO m s x i).grows),.row 3 (.ints (Ah m s ((aO m s x i).list.getD i []) (aO m s x i).list r)),.row 3 (.ints (oN m s ((aO m s x i).list.getD i []) r)),.box [.own 7],.row 3 (.ints (kE (fO m s ((aO m s x i).list.getD i []) r) (iR m s ((aO m s x i).list.getD i []) r) j))]) (fun j=>j<=m.length) (fun j=>m.length-j) 0 (by exact bV (by rw [Vu])) (Nat.zero_le _) fun j hj =>?_
   have hll:=wM (fO m s ((aO m s x i).list.getD i []) r) (iR m s ((aO m s x i).list.getD i []) r) j
   simp only [xr,simprocAttr]
   refine ah ?_
   refine aj amQ (fun he =>?_) (fun he =>?_)
   ·have he:=of_decide_eq_true he
    have hj':j<m.length:=by omega
    have hat:=Sl (v:=fO m s ((aO m s x i).list.getD i []) r) (a:=iR m s ((aO m s x i).list.getD i []) r) (j:=j) (by omega)
    have hst:=NS (fO m s ((aO m s x i).list.getD i []) r) (iR m s ((aO m s x i).list.getD i []) r) j
    have hnb:=hnx.at_ j hj'
    refine ah ?_
    rw [hat]
    refine amS ?_
    refine ah ?_
    refine ⟨j+1,by omega,by omega,.inl ?_⟩
    exact bV (by rw [← hst])
   ·have he:=of_decide_eq_false he
    have hj':j=m.length:=by omega
    subst hj'
    refine amB ?_
    rw [show kE (fO m s ((aO m s x i).list.getD i []) r) (iR m s ((aO m s x i).list.getD i []) r) m.length=iH m s ((aO m s x i).list.getD i []) r by rw [← hnxl];exact NR _ _]
    (refine aN 7 rfl ?_;simp only [xz,simprocAttr])
    refine ah ?_
    ((try refine Or.inl ?_);refine ⟨_,(vH _ _ [.ip [.sl (.ints (iH m s ((aO m s x i).list.getD i []) r))] 0] (fun own=>decide (own=iH m s ((aO m s x i).list.getD i []) r)) rfl fun k hk=>Oi _ _),.inl rfl,?_⟩;refine amC ?_)
    refine ah ?_
    refine aj amQ (fun hk =>?_) (fun hk =>?_)
    ·have hk:fZ (bW m s ((aO m s x i).list.getD i []) (aO m s x i).list r) (iH m s ((aO m s x i).list.getD i []) r)<0:=of_decide_eq_true hk
     refine ah ?_
     refine ⟨r+1,by omega,by omega,.inr ⟨6,Nat.le_of_ble_eq_true rfl,aS ?_ rfl rfl rfl⟩⟩
     exact bV (by simp only [bW,kQ,ug,uQ,qW,if_pos hk];rfl)
    ·have hk:¬ fZ (bW m s ((aO m s x i).list.getD i []) (aO m s x i).list r) (iH m s ((aO m s x i).list.getD i []) r)<0:=of_decide_eq_false hk
     refine ah ?_
     refine ⟨r+1,by omega,by omega,.inr ⟨6,Nat.le_of_ble_eq_true rfl,aS ?_ rfl rfl rfl⟩⟩
     exact bV (by simp only [bW,kQ,ug,uQ,qW,if_neg hk];rfl)
  ·have hd:=of_decide_eq_false hd
   have hr':r=s.length:=by omega
   subst hr'
   refine amB ?_
   (refine aN 4 rfl ?_;simp only [xz,simprocAttr])
   (refine aN 5 rfl ?_;simp only [xz,simprocAttr])
   refine ah ?_
   refine aj amQ (fun hg =>?_) (fun hg =>?_)
   ·have hg:=of_decide_eq_true hg
    have hbig:400<(aO m s x (i+1)).list.length:=by show 400<(bW m s _ _ s.length).length;omega
    refine ah ?_
    (simp only [xe,simprocAttr];refine ⟨[_,_,_,_],⟨rfl,rfl,rfl,rfl,trivial⟩,rfl,Imp.eq ?_⟩)
    rw [hi.large hlt hbig]
    rfl
   ·have hg:=of_decide_eq_false hg
    have hbig:¬ 400<(aO m s x (i+1)).list.length:=by show ¬ 400<(bW m s _ _ s.length).length;omega
    refine ah ?_
    refine ⟨i+1,hi.next hlt hbig,by omega,.inr ⟨4,Nat.le_of_ble_eq_true rfl,aS ?_ rfl rfl rfl⟩⟩
    exact bZ
 ·have hc:=of_decide_eq_false hc
  refine jd ?_
  (refine aN 1 rfl ?_;simp only [xz,simprocAttr])
  (refine aN 2 rfl ?_;simp only [xz,simprocAttr])
  (refine aN 3 rfl ?_;simp only [xz,simprocAttr])
  refine ah ?_
  (simp only [xe,simprocAttr];refine ⟨[_,_,_,_],⟨rfl,rfl,rfl,rfl,trivial⟩,rfl,Imp.eq ?_⟩)
  rw [hi.done (by omega)]
  rfl
end Go.Proofs.YtkcelmnbfbehbaaGreat
