/- Offsets on the machine: the reference's. Conditions: problems that are right. -/
import Derived.Test.YtnblieajjclipaaGreatZGWI
set_option linter.all false
namespace Go.Proofs.YtnblieajjclipaaGreat
open Go Go.RowKit Am
theorem KG (xs ys:List Int):Does Tryz.prog 94 [.sl (.ints xs),.sl (.ints ys)] (.imm (.bool (decide (xs=ys)))):=by
 refine aF Tryz.func94 rfl Tryz.ntmps94 aQ (fun _ _=>by kernel_rfl) rfl (Nat.le_of_ble_eq_true rfl) ?_
 intro M0 w0
 rw [Tryz.results94]
 (refine bY 0 rfl fun hf =>?_;simp only [xp,simprocAttr] at hf;simp only [xf,simprocAttr] at hf)
 refine ah ?_
 refine aj amQ (fun hc =>?_) (fun hc =>?_)
 ·have hn:xs≠ys:=fun e=>by simp [e] at hc
  refine ah ?_
  refine bJ ?_
  rw [decide_eq_false hn]
 have hl:xs.length=ys.length:=by simp at hc;omega
 refine ah ?_
 refine aA (α:=Nat) (fun k=>[(5,true,.int k)]) [0,1] (fun _=>[]) (fun k=>k<=xs.length/\xs.take k=ys.take k) (fun k=>xs.length-k) 0 (by exact bW) ⟨Nat.zero_le _,rfl⟩ fun k hk =>?_
 obtain ⟨hk,hp⟩:=hk
 simp only [xr,simprocAttr]
 refine ah ?_
 refine aj amQ (fun hd =>?_) (fun hd =>?_)
 ·have hk':k<xs.length:=by simpa using hd
  have hky:k<ys.length:=by omega
  refine ah ?_
  refine aj amQ (fun he =>?_) (fun he =>?_)
  ·have hn:xs≠ys:=fun e=>by simp [e] at he
   refine ah ?_
   refine bJ ?_
   rw [decide_eq_false hn]
  ·refine ah ?_
   refine ⟨k+1,by omega,?_,by omega,.inl ?_⟩
   ·have h2:xs.getD k 0=ys.getD k 0:=by simpa using he
    rw [List.take_succ_eq_append_getElem hk',List.take_succ_eq_append_getElem hky,hp,← getD_in (d:=0) hk',← getD_in (d:=0) hky,h2]
   ·exact bW
 ·have hk':k=xs.length:=by simp at hd;omega
  subst hk'
  have he:xs=ys:=by rw [List.take_length,hl,List.take_length] at hp;exact hp
  refine ah ?_
  refine bJ ?_
  rw [decide_eq_true he]
theorem I8 (xs ys:List Int):Does Tryz.prog 155 [.sl (.ints xs),.sl (.ints ys)] (.imm (.bool (decide (xs=ys)))):=by
 refine aF Tryz.func155 rfl Tryz.ntmps155 aQ (fun _ _=>by kernel_rfl) rfl (Nat.le_of_ble_eq_true rfl) ?_
 intro M0 w0
 rw [Tryz.results155]
 (refine bY 0 rfl fun hf =>?_;simp only [xp,simprocAttr] at hf;simp only [xf,simprocAttr] at hf)
 refine ah ?_
 refine aj amQ (fun hc =>?_) (fun hc =>?_)
 ·have hn:xs≠ys:=fun e=>by simp [e] at hc
  refine ah ?_
  refine bJ ?_
  rw [decide_eq_false hn]
 have hl:xs.length=ys.length:=by simp at hc;omega
 refine ah ?_
 refine aA (α:=Nat) (fun k=>[(13,true,.int k)]) [0,1,11,12] (fun _=>[]) (fun k=>k<=xs.length/\xs.take k=ys.take k) (fun k=>xs.length-k) 0 (by exact bW) ⟨Nat.zero_le _,rfl⟩ fun k hk =>?_
 obtain ⟨hk,hp⟩:=hk
 simp only [xr,simprocAttr]
 refine ah ?_
 refine aj amQ (fun hd =>?_) (fun hd =>?_)
 ·have hk':k<xs.length:=by simpa using hd
  have hky:k<ys.length:=by omega
  refine ah ?_
  refine aj amQ (fun he =>?_) (fun he =>?_)
  ·have hn:xs≠ys:=fun e=>by simp [e] at he
   refine ah ?_
   refine bJ ?_
   rw [decide_eq_false hn]
  ·refine ah ?_
   refine ⟨k+1,by omega,?_,by omega,.inl ?_⟩
   ·have h2:xs.getD k 0=ys.getD k 0:=by simpa using he
    rw [List.take_succ_eq_append_getElem hk',List.take_succ_eq_append_getElem hky,hp,← getD_in (d:=0) hk',← getD_in (d:=0) hky,h2]
   ·exact bW
 ·have hk':k=xs.length:=by simp at hd;omega
  subst hk'
  have he:xs=ys:=by rw [List.take_length,hl,List.take_length] at hp;exact hp
  refine ah ?_
  refine bJ ?_
  rw [decide_eq_true he]
theorem RN (l:List (List Int)) (w:List Int):Does Tryz.prog 178 [.sl (.ii l),.sl (.ints w)] (.imm (.int (fV l w))):=by
 refine aF Tryz.func178 rfl Tryz.ntmps178 aQ (fun _ _=>by kernel_rfl) rfl (Nat.le_of_ble_eq_true rfl) ?_
 intro M0 w0
 rw [Tryz.results178]
 (refine bY 0 rfl fun hf =>?_;simp only [xp,simprocAttr] at hf;simp only [xf,simprocAttr] at hf)
 refine ah ?_
 refine aA (α:=Nat) (fun k=>[(5,true,.int k)]) [0,1] (fun _=>[]) (fun k=>k<=l.length/\∀ x∈l.take k,decide (x=w)=false) (fun k=>l.length-k) 0 (by exact bW) ⟨Nat.zero_le _,by simp⟩ fun k hk =>?_
 obtain ⟨hk,hp⟩:=hk
 simp only [xr,simprocAttr]
 refine ah ?_
 refine aj amQ (fun hc =>?_) (fun hc =>?_)
 ·have hk':k<l.length:=by simpa using hc
  refine ah ?_
  ((try refine Or.inl ?_);refine ⟨_,(KG _ _),.inl rfl,?_⟩;refine amC ?_)
  refine aj amQ (fun hd =>?_) (fun hd =>?_)
  ·have e:fV l w=k:=ig hk' (by rw [← getD_in (d:=[]) hk'];exact hd) hp
   refine ah ?_
   refine bJ ?_
   rw [e]
  ·refine ah ?_
   refine ⟨k+1,by omega,fun x hx' =>?_,by omega,.inl ?_⟩
   ·rw [List.take_succ_eq_append_getElem hk',List.mem_append,List.mem_singleton] at hx'
    rcases hx' with hx' | rfl
    ·exact hp x hx'
    ·rw [← getD_in (d:=[]) hk'];exact hd
   ·exact bW
 ·have hk':k=l.length:=by simp at hc;omega
  subst hk'
  rw [List.take_length] at hp
  have e:fV l w = -1:=gZ hp
  refine ah ?_
  refine bJ ?_
  rw [e]
theorem NG {w:List Int} {a:Int} {k:Nat} (h:k<w.length):(lessM w a).take (k+1)=(lessM w a).take k++[w.getD k 0-a]:=by
 rw [eU (by rw [kC];exact h) 0,yw h]
theorem DF {m:List (List Int)} {B:Int} (w:List Int) (hw:jv m w B) (hB:B<=2000000) (hm:0<m.length) (hm4:m.length<=1000) :
  Does Tryz.prog 176 [.sl (.ints w)] (.imm (.tup [.one (.b (.sl (.ints (lessM w (dn w (m.length-1)))))),.one (.b (.val (.int .i64 (dn w (m.length-1)))))])):=by
 have hl:=hw.len
 have hb:=mQ hw (m.length-1) (by omega)
 refine aF Tryz.func176 rfl Tryz.ntmps176 aQ (fun _ _=>by kernel_rfl) rfl (Nat.le_of_ble_eq_true rfl) ?_
 intro M0 w0
 rw [Tryz.results176]
 refine ah ?_
 ((try refine Or.inl ?_);refine ⟨_,(Gm w (by intro e;rw [e] at hl;simp at hl;omega)),.inl rfl,?_⟩;refine amC ?_)
 rw [hl]
 refine ah ?_
 refine aA (α:=Nat) (fun k=>[(6,true,.int k)]) [0,4,5] (fun k=>[.row 3 (.ints ((lessM w (dn w (m.length-1))).take k))]) (fun k=>k<=m.length) (fun k=>m.length-k) 0 (by exact dw (by simp)) (Nat.zero_le _) fun k hk =>?_
 have hsl:((lessM w (dn w (m.length-1))).take k).length=k:=by rw [List.length_take,kC];omega
 simp only [xr,simprocAttr]
 refine ah ?_
 refine aj amQ (fun hc =>?_) (fun hc =>?_)
 ·have hc:=of_decide_eq_true hc
  have hk':k<m.length:=by omega
  have h1:=hw.at_ k hk'
  refine ah ?_
  refine ⟨k+1,by omega,by omega,.inl ?_⟩
  exact dw (by rw [NG (by omega)])
 ·have hc:=of_decide_eq_false hc
  have hk':k=m.length:=by omega
  subst hk'
  rw [List.take_of_length_le (by rw [kC];omega)]
  refine jC ?_
  (refine aK 0 rfl ?_;simp only [xz,simprocAttr])
  refine ah ?_
  (simp only [xe,simprocAttr];refine ⟨[_,_],⟨rfl,rfl,trivial⟩,rfl,Imp.eq ?_⟩)
  rfl
def jy (t:dD) (b:Bool):AV := .tv (.agg [.b (.sl (.ii t.list)),.b (.sl (.ii t.next)),.b (.sl (.ii t.grows)),.b (.val (.bool b))])
theorem ND {m s:List (List Int)} {w:List Int} {B:Int} (hp:bg m s=true) (hw:jv m w B) (hB:B<=1000000) {r:Nat} (hr:r<s.length):Does Tryz.prog 176 [.sl (.ints (fJ m s w r))] (.imm (.tup [.one (.b (.sl (.ints (iG m s w r)))),.one (.b (.val (.int .i64 (iM m s w r))))])):=by
 have hl:=bI hp
 exact DF (fJ m s w r) (sK hp hw hB hr) (by omega) (by omega) (by omega)
set_option maxHeartbeats 2000000 in
theorem Qa (m s:List (List Int)) (x:Nat) (hp:bg m s=true) (hx:x<m.length):Does Tryz.prog 147 [prA m s,.int x] (.imm (jy (jq m s x).1 (jq m s x).2)):=by
 have hl:=bI hp
 have hx1:=iC hp hx
 have hw0:jv m (m.getD x []) 99:=⟨hx1.1,hx1.2⟩
 refine aF Tryz.func147 rfl Tryz.ntmps147 aQ (fun _ _=>by kernel_rfl) rfl (Nat.le_of_ble_eq_true rfl) ?_
 intro M0 w0
 rw [Tryz.results147]
 refine ah ?_
 ((try refine Or.inl ?_);refine ⟨_,(DF (m.getD x []) hw0 (by omega) (by omega) (by omega)),amF,?_⟩;refine amC ?_)
 rw [Uz hp hx]
 (refine amB ?_;refine rJ [false,true] ?_;refine amN ?_)
 (refine kJ 3 1 26 (.ii []) rfl rfl rfl (by first | trivial | (intro _ h;cases h)) ?_;simp only [xr,simprocAttr])
 (refine kJ 3 2 26 (.ii []) rfl rfl rfl (by first | trivial | (intro _ h;cases h)) ?_;simp only [xr,simprocAttr])
 refine ah ?_
 refine aA (α:=Nat) (fun i=>[(8,true,.int i)]) [2,4,7] (fun i=>[.box [.b (.sl (.ii m)),.b (.sl (.ii s))],.box [.b (.val (.slice none 0 0)),.b (.val (.slice none 0 0)),.b (.val (.slice none 0 0)),.b (.val (.bool false))],.row 26 (.ii (aP m s x i).list),.box [.own 2,.own 4,.own 5,.b (.val (.bool false))],.row 26 (.ii (aP m s x i).next),.row 26 (.ii (aP m s x i).grows)]) (vF m s x) (fun i=>401-i) 0 (by exact dJ) (vF.first m s x) fun i hi =>?_
 have hile:=hi.le
 have hlen:=hi.len
 have hok:=yE hp hx i (by omega) hi.lt
 have hnl:=hok.nlen
 have hgl:=hok.glen
 simp only [xr,simprocAttr]
 refine ah ?_
 refine aj amQ (fun hc =>?_) (fun hc =>?_)
 ·have hc:=of_decide_eq_true hc
  have hlt:i<(aP m s x i).list.length:=by omega
  have hw:=Iz hok hlt
  refine ah ?_
  refine aA (α:=Nat) (fun r=>[(11,true,.int r)]) [2,4,7,8,9,10] (fun r=>[.box [.b (.sl (.ii m)),.b (.sl (.ii s))],.box [.b (.val (.slice none 0 0)),.b (.val (.slice none 0 0)),.b (.val (.slice none 0 0)),.b (.val (.bool false))],.row 26 (.ii (bV m s ((aP m s x i).list.getD i []) (aP m s x i).list r)),.box [.own 2,.own 4,.own 5,.b (.val (.bool false))],.row 26 (.ii (aP m s x i).next),.row 26 (.ii (aP m s x i).grows),.row 3 (.ints (zU m s ((aP m s x i).list.getD i []) (aP m s x i).list r)),.row 3 (.ints (ou m s ((aP m s x i).list.getD i []) r))]) (fun r=>r<=s.length) (fun r=>s.length-r) 0 (by exact dJ) (Nat.zero_le _) fun r hr =>?_
  have hol:=lD m s ((aP m s x i).list.getD i []) (aP m s x i).list r
  have hon:=DY m s ((aP m s x i).list.getD i []) (aP m s x i).list r
  have hog:=zT m s ((aP m s x i).list.getD i []) r
  simp only [xr,simprocAttr]
  refine ah ?_
  refine aj amQ (fun hd =>?_) (fun hd =>?_)
  ·have hd:=of_decide_eq_true hd
   have hr':r<s.length:=by omega
   refine ah ?_
   rw [sO hlt r]
   ((try refine Or.inl ?_);refine ⟨_,(Vd m s ((aP m s x i).list.getD i []) _ r hp hw (by omega) hr'),amF,?_⟩;refine amC ?_)
   ((try refine Or.inl ?_);refine ⟨_,(ND hp hw (by omega) hr'),amF,?_⟩;refine amC ?_)
   refine ah ?_
   ((try refine Or.inl ?_);refine ⟨_,(RN _ _),.inl rfl,?_⟩;refine amC ?_)
   refine ah ?_
   refine aj amQ (fun he =>?_) (fun he =>?_)
   ·have he:=of_decide_eq_true he
    refine ah ?_
    refine ⟨r+1,by omega,by omega,.inl ?_⟩
    exact dw (by simp only [bV,kT,sZ,uz,qI,if_pos he])
   ·have he:=of_decide_eq_false he
    refine ah ?_
    refine ⟨r+1,by omega,by omega,.inl ?_⟩
    exact dw (by simp only [bV,kT,sZ,uz,qI,if_neg he])
  ·have hd:=of_decide_eq_false hd
   have hr':r=s.length:=by omega
   subst hr'
   refine amB ?_
   (refine aK 6 rfl ?_;simp only [xz,simprocAttr])
   (refine aK 7 rfl ?_;simp only [xz,simprocAttr])
   refine ah ?_
   refine aj amQ (fun hg =>?_) (fun hg =>?_)
   ·have hg:=of_decide_eq_true hg
    have hbig:400<(aP m s x (i+1)).list.length:=by show 400<(bV m s _ _ s.length).length;omega
    refine jC ?_
    (refine aK 2 rfl ?_;simp only [xz,simprocAttr])
    (refine aK 4 rfl ?_;simp only [xz,simprocAttr])
    (refine aK 5 rfl ?_;simp only [xz,simprocAttr])
    refine ah ?_
    (simp only [xec,simprocAttr];refine ⟨_,⟨amK,rfl⟩,rfl,Imp.eq ?_⟩)
    rw [hi.large hlt hbig]
    rfl
   ·have hg:=of_decide_eq_false hg
    have hbig:¬ 400<(aP m s x (i+1)).list.length:=by show ¬ 400<(bV m s _ _ s.length).length;omega
    refine ah ?_
    refine ⟨i+1,hi.next hlt hbig,by omega,.inr ⟨6,Nat.le_of_ble_eq_true rfl,aT ?_ rfl rfl rfl⟩⟩
    exact dJ
 ·have hc:=of_decide_eq_false hc
  refine jC ?_
  (refine aK 2 rfl ?_;simp only [xz,simprocAttr])
  (refine aK 4 rfl ?_;simp only [xz,simprocAttr])
  (refine aK 5 rfl ?_;simp only [xz,simprocAttr])
  refine ah ?_
  (simp only [xec,simprocAttr];refine ⟨_,⟨amK,rfl⟩,rfl,Imp.eq ?_⟩)
  rw [hi.done (by omega)]
  rfl
def kD (v:List Int) (a:Int) (j:Nat):List Int:=(List.range v.length).map fun (k:Nat)=>if k<j then v.getD k 0-a else v.getD k 0
theorem wz (v:List Int) (a:Int) (j:Nat):(kD v a j).length=v.length:=by simp [kD]
theorem Vg (v:List Int) (a:Int):kD v a 0=v:=by
 refine List.ext_getElem (wz v a 0) fun j h1 h2 =>?_
 simp [kD,h2]
theorem NH (v:List Int) (a:Int):kD v a v.length=lessM v a:=by
 refine List.ext_getElem (by rw [wz,kC]) fun j h1 h2 =>?_
 rw [kC] at h2
 simp [kD,lessM,h2]
theorem RU {v:List Int} {a:Int} {j:Nat} (h:j<v.length):(kD v a j).getD j 0=v.getD j 0:=by
 unfold kD
 rw [dN _ _ h,if_neg (Nat.lt_irrefl _)]
theorem NI (v:List Int) (a:Int) (j:Nat):(kD v a j).set j (v.getD j 0-a)=kD v a (j+1):=by
 unfold kD
 rw [qK]
 refine gW fun k _ =>?_
 by_cases e:k=j
 ·subst e
  rw [if_pos rfl,if_pos (by omega)]
 ·rw [if_neg e]
  by_cases h:k<j
  ·rw [if_pos h,if_pos (by omega)]
  ·rw [if_neg h,if_neg (by omega)]
theorem N9 (own w:List Int):Does Tryz.prog 154 [.sl (.ints own),.lf (.ip [.sl (.ints w)] 0)] (.imm (.bool (decide (own=w)))):=by
 refine aF Tryz.func154 rfl Tryz.ntmps154 aQ (fun _ _=>by kernel_rfl) rfl (Nat.le_of_ble_eq_true rfl) ?_
 intro M0 w0
 rw [Tryz.results154]
 refine ah ?_
 ((try refine Or.inl ?_);refine ⟨_,(I8 _ _),.inl rfl,?_⟩;refine amC ?_)
 refine ah ?_
 refine bJ ?_
 rfl
def ZL (q:dD×Bool):AV:=bif q.2 then .tup [.one (.b (.val (.slice none 0 0))),.one (.b (.val (.slice none 0 0))),.one (.b (.val (.slice none 0 0))),.one (.b (.val (.bool false)))] else .tup [.one (.b (.sl (.ii q.1.list))),.one (.b (.sl (.ii q.1.next))),.one (.b (.sl (.ii q.1.grows))),.one (.b (.val (.bool true)))]
set_option maxHeartbeats 2000000 in
theorem Gy (m s:List (List Int)) (x:Nat) (hp:bg m s=true) (hx:x<m.length):Does Tryz.prog 96 [prA m s,.int x] (.imm (ZL (jq m s x))):=by
 have hl:=bI hp
 have hx1:=iC hp hx
 refine aF Tryz.func96 rfl Tryz.ntmps96 aQ (fun _ _=>by kernel_rfl) rfl (Nat.le_of_ble_eq_true rfl) ?_
 intro M0 w0
 rw [Tryz.results96]
 refine amB ?_
 refine L9 ?_
 (refine amB ?_;refine rJ [false,false,false,false,false,false,true] ?_;refine amN ?_)
 ((try refine Or.inl ?_);refine ⟨_,(O9 _ (by omega) (by omega)),amF,?_⟩;refine amC ?_)
 refine ah ?_
 refine aA (α:=Nat) (fun i=>[(11,true,.int i)]) [2,8,9,10] (fun i=>[.box [.b (.sl (.ii m)),.b (.sl (.ii s))],.row 26 (.ii (aP m s x i).list),.row 26 (.ii (aP m s x i).next),.row 26 (.ii (aP m s x i).grows)]) (vF m s x) (fun i=>401-i) 0 (by exact dJ) (vF.first m s x) fun i hi =>?_
 have hile:=hi.le
 have hlen:=hi.len
 have hok:=yE hp hx i (by omega) hi.lt
 have hnl:=hok.nlen
 have hgl:=hok.glen
 simp only [xr,simprocAttr]
 refine ah ?_
 refine aj amQ (fun hc =>?_) (fun hc =>?_)
 ·have hc:=of_decide_eq_true hc
  have hlt:i<(aP m s x i).list.length:=by omega
  have hw:=Iz hok hlt
  refine ah ?_
  refine aA (α:=Nat) (fun r=>[(39,true,.int r)]) [2,8,9,10,11,12,13,38] (fun r=>[.box [.b (.sl (.ii m)),.b (.sl (.ii s))],.row 26 (.ii (bV m s ((aP m s x i).list.getD i []) (aP m s x i).list r)),.row 26 (.ii (aP m s x i).next),.row 26 (.ii (aP m s x i).grows),.row 3 (.ints (zU m s ((aP m s x i).list.getD i []) (aP m s x i).list r)),.row 3 (.ints (ou m s ((aP m s x i).list.getD i []) r))]) (fun r=>r<=s.length) (fun r=>s.length-r) 0 (by exact dJ) (Nat.zero_le _) fun r hr =>?_
  have hol:=lD m s ((aP m s x i).list.getD i []) (aP m s x i).list r
  have hon:=DY m s ((aP m s x i).list.getD i []) (aP m s x i).list r
  have hog:=zT m s ((aP m s x i).list.getD i []) r
  simp only [xr,simprocAttr]
  refine ah ?_
  refine aj amQ (fun hd =>?_) (fun hd =>?_)
  ·have hd:=of_decide_eq_true hd
   have hr':r<s.length:=by omega
   have hgt:=sO hlt (m:=m) (s:=s) (w:=(aP m s x i).list.getD i []) r
   have hnx:=sK hp hw (by omega) hr'
   have hnxl:=hnx.len
   refine ah ?_
   ((repeat (first | refine g1 ?_ | refine g2 ?_ | ((first | refine g3 ?_ | refine g4 ?_);try simp only [xq,simprocAttr])));refine TG [true,true,true,true,true,true] (by kernel_rfl) (by kernel_rfl) rfl rfl ⟨rfl,rfl,rfl⟩ ⟨rfl,rfl,rfl⟩ ⟨rfl,rfl,rfl⟩ rfl ⟨rfl,rfl⟩ ⟨by simp only [xr,simprocAttr],by simp only [xr,simprocAttr]⟩ ⟨by kernel_rfl,by kernel_rfl⟩ ?_;simp (maxSteps:=3000000) only [xr,simprocAttr];repeat (guard_target =~ _/\_;refine ⟨by first | with_reducible assumption | (guard_target =~ (_:Int)<=_;omega) | (guard_target =~ (_:Int)<_;omega) | (guard_target =~ (_:Nat)<_;omega) | (guard_target =~ (_:Nat)<=_;omega) | (guard_target =~ (_:Int)=_;omega) | (unfold I64;omega) | trivial | omega | (simp<;>omega) | (intros;omega),?_⟩))
   rw [hgt]
   (refine ⟨_,_,acL (DW m s ((aP m s x i).list.getD i []) _ r hp hw (by omega) hr') rfl rfl rfl rfl rfl,?_⟩;refine amC ?_)
   refine ah ?_
   ((try refine Or.inl ?_);refine ⟨_,(EF (fJ m s ((aP m s x i).list.getD i []) r) (by intro e;rw [e] at hnxl;simp at hnxl;omega)),.inl rfl,?_⟩;refine amC ?_)
   rw [hnxl]
   refine ah ?_
   have hgd:dn (fJ m s ((aP m s x i).list.getD i []) r) (m.length-1)=iM m s ((aP m s x i).list.getD i []) r:=rfl
   rw [hgd]
   have hgb:=Iy hp hw (by omega) hr' (by omega)
   refine aA (α:=Nat) (fun j=>[(53,true,.int j)]) [2,8,9,10,11,12,13,14,15,16,38,39,52] (fun j=>[.box [.b (.sl (.ii m)),.b (.sl (.ii s))],.row 26 (.ii (bV m s ((aP m s x i).list.getD i []) (aP m s x i).list r)),.row 26 (.ii (aP m s x i).next),.row 26 (.ii (aP m s x i).grows),.row 3 (.ints (zU m s ((aP m s x i).list.getD i []) (aP m s x i).list r)),.row 3 (.ints (ou m s ((aP m s x i).list.getD i []) r)),.box [.own 7],.row 3 (.ints (kD (fJ m s ((aP m s x i).list.getD i []) r) (iM m s ((aP m s x i).list.getD i []) r) j))]) (fun j=>j<=m.length) (fun j=>m.length-j) 0 (by exact dw (by rw [Vg])) (Nat.zero_le _) fun j hj =>?_
   have hll:=wz (fJ m s ((aP m s x i).list.getD i []) r) (iM m s ((aP m s x i).list.getD i []) r) j
   simp only [xr,simprocAttr]
   refine ah ?_
   refine aj amQ (fun he =>?_) (fun he =>?_)
   ·have he:=of_decide_eq_true he
    have hj':j<m.length:=by omega
    have hat:=RU (v:=fJ m s ((aP m s x i).list.getD i []) r) (a:=iM m s ((aP m s x i).list.getD i []) r) (j:=j) (by omega)
    have hst:=NI (fJ m s ((aP m s x i).list.getD i []) r) (iM m s ((aP m s x i).list.getD i []) r) j
    have hnb:=hnx.at_ j hj'
    refine ah ?_
    rw [hat]
    refine amS ?_
    refine ah ?_
    refine ⟨j+1,by omega,by omega,.inl ?_⟩
    exact dw (by rw [← hst])
   ·have he:=of_decide_eq_false he
    have hj':j=m.length:=by omega
    subst hj'
    refine amB ?_
    rw [show kD (fJ m s ((aP m s x i).list.getD i []) r) (iM m s ((aP m s x i).list.getD i []) r) m.length=iG m s ((aP m s x i).list.getD i []) r by rw [← hnxl];exact NH _ _]
    (refine aK 7 rfl ?_;simp only [xz,simprocAttr])
    refine ah ?_
    ((try refine Or.inl ?_);refine ⟨_,(uU _ _ [.ip [.sl (.ints (iG m s ((aP m s x i).list.getD i []) r))] 0] (fun own=>decide (own=iG m s ((aP m s x i).list.getD i []) r)) rfl fun k hk=>N9 _ _),.inl rfl,?_⟩;refine amC ?_)
    refine ah ?_
    refine aj amQ (fun hk =>?_) (fun hk =>?_)
    ·have hk:fV (bV m s ((aP m s x i).list.getD i []) (aP m s x i).list r) (iG m s ((aP m s x i).list.getD i []) r)<0:=of_decide_eq_true hk
     refine ah ?_
     refine ⟨r+1,by omega,by omega,.inr ⟨6,Nat.le_of_ble_eq_true rfl,aT ?_ rfl rfl rfl⟩⟩
     exact dw (by simp only [bV,kT,sZ,uz,qI,if_pos hk];rfl)
    ·have hk:¬ fV (bV m s ((aP m s x i).list.getD i []) (aP m s x i).list r) (iG m s ((aP m s x i).list.getD i []) r)<0:=of_decide_eq_false hk
     refine ah ?_
     refine ⟨r+1,by omega,by omega,.inr ⟨6,Nat.le_of_ble_eq_true rfl,aT ?_ rfl rfl rfl⟩⟩
     exact dw (by simp only [bV,kT,sZ,uz,qI,if_neg hk];rfl)
  ·have hd:=of_decide_eq_false hd
   have hr':r=s.length:=by omega
   subst hr'
   refine amB ?_
   (refine aK 4 rfl ?_;simp only [xz,simprocAttr])
   (refine aK 5 rfl ?_;simp only [xz,simprocAttr])
   refine ah ?_
   refine aj amQ (fun hg =>?_) (fun hg =>?_)
   ·have hg:=of_decide_eq_true hg
    have hbig:400<(aP m s x (i+1)).list.length:=by show 400<(bV m s _ _ s.length).length;omega
    refine ah ?_
    (simp only [xe,simprocAttr];refine ⟨[_,_,_,_],⟨rfl,rfl,rfl,rfl,trivial⟩,rfl,Imp.eq ?_⟩)
    rw [hi.large hlt hbig]
    rfl
   ·have hg:=of_decide_eq_false hg
    have hbig:¬ 400<(aP m s x (i+1)).list.length:=by show ¬ 400<(bV m s _ _ s.length).length;omega
    refine ah ?_
    refine ⟨i+1,hi.next hlt hbig,by omega,.inr ⟨4,Nat.le_of_ble_eq_true rfl,aT ?_ rfl rfl rfl⟩⟩
    exact dJ
 ·have hc:=of_decide_eq_false hc
  refine jC ?_
  (refine aK 1 rfl ?_;simp only [xz,simprocAttr])
  (refine aK 2 rfl ?_;simp only [xz,simprocAttr])
  (refine aK 3 rfl ?_;simp only [xz,simprocAttr])
  refine ah ?_
  (simp only [xe,simprocAttr];refine ⟨[_,_,_,_],⟨rfl,rfl,rfl,rfl,trivial⟩,rfl,Imp.eq ?_⟩)
  rw [hi.done (by omega)]
  rfl
end Go.Proofs.YtnblieajjclipaaGreat
