/- Arenas on the machine: the arena of a game. Conditions: games that are whole, ratios in bounds. -/
import Derived.Test.YtnblieajjclipaaGreatRA3
set_option linter.all false
namespace Go.Proofs.YtnblieajjclipaaGreat
open Go Go.RowKit Am
theorem xQ {xs ys:List (List (List Int))} (hl:xs.length=ys.length) (h:∀ v,v<ys.length->aG xs v=aG ys v):xs=ys :=
 List.ext_getElem hl fun v hv hv'=>by
  have:=h v hv'
  unfold aG at this
  simpa [List.getD_eq_getElem?_getD,hv,hv'] using this
theorem yQ (xs:List (List (List Int))) (v u:Nat) (x:List (List Int)) (hv:v<xs.length):aG (xs.set v x) u=if u=v then x else aG xs u:=by
 unfold aG
 simp only [List.getD_eq_getElem?_getD,List.getElem?_set]
 by_cases e:v=u
 ·subst e;simp [hv]
 ·rw [if_neg e,if_neg fun e2=>e e2.symm]
theorem Ht (xs:List (List (List Int))) (u:Nat):aG (xs++[[]]) u=aG xs u:=by
 unfold aG
 simp only [List.getD_eq_getElem?_getD]
 by_cases h:u<xs.length
 ·rw [List.getElem?_append_left h]
 ·rw [List.getElem?_append_right (by omega),List.getElem?_eq_none (Nat.not_lt.1 h)]
  by_cases e:u-xs.length=0
  ·rw [e];rfl
  ·rw [List.getElem?_eq_none (by simp;omega)]
theorem Rj (n q j c:Nat):xB n q j (c+1)=xB n q j c++[[((n+(j*q+c):Nat):Int),0]]:=by simp [xB,List.range_succ]
theorem TB {g:GmT} {num den:Int} {q a r:Nat} (ha:a<g.list.length):((arG g num den q a r++[[]]).set a (xB g.list.length q a (r+1))).set (g.list.length+(a*q+r)) (pq g num den q (a*q+r))=arG g num den q a (r+1):=by
 have hl:=kG g num den q a r
 have hl2:=kG g num den q a (r+1)
 refine xQ (by simp [hl,hl2];omega) fun v hv =>?_
 rw [hl2] at hv
 rw [yQ _ _ _ _ (by simp [hl]),yQ _ _ _ _ (by simp [hl];omega),Ht]
 by_cases h1:v=g.list.length+(a*q+r)
 ·rw [if_pos h1,h1,zn (by omega)]
 ·rw [if_neg h1]
  by_cases h2:v=a
  ·rw [if_pos h2,h2,rH ha,if_neg (by omega),if_pos rfl]
  ·rw [if_neg h2]
   by_cases h3:v<g.list.length
   ·rw [rH h3,rH h3,if_neg h2,if_neg h2]
   ·obtain ⟨e,rfl⟩:=Nat.exists_eq_add_of_le (Nat.not_lt.1 h3)
    rw [zn (by omega),zn (by omega)]
theorem TA {g:GmT} {num den:Int} {q a:Nat}:arG g num den q a q=arG g num den q (a+1) 0:=by
 have hl:=kG g num den q a q
 have hl2:=kG g num den q (a+1) 0
 have he:(a+1)*q+0=a*q+q:=by rw [Nat.add_mul];omega
 refine xQ (by rw [hl,hl2,he]) fun v hv =>?_
 rw [hl2] at hv
 by_cases h3:v<g.list.length
 ·rw [rH h3,rH h3]
  congr 1
  by_cases h4:v<a+1
  ·rw [if_pos h4]
   by_cases h5:v<a
   ·rw [if_pos h5]
   ·rw [if_neg h5,if_pos (by omega)]
  ·rw [if_neg h4,if_neg (by omega),if_neg (by omega)]
   split<;>rfl
 ·obtain ⟨e,rfl⟩:=Nat.exists_eq_add_of_le (Nat.not_lt.1 h3)
  rw [zn (by omega),zn (by omega)]
theorem Ri (g:GmT) (num den:Int) (q:Nat):arG g num den q 0 0=List.replicate g.list.length []:=by
 refine xQ (by rw [kG];simp) fun v hv =>?_
 have hv:v<g.list.length:=by simpa using hv
 rw [rH hv,if_neg (by omega),show (if v=0 then 0 else 0)=0 by split<;>rfl]
 simp [xB,aG,hv]
theorem TT (g:GmT) (k:Nat):cfG g k++[true]=cfG g (k+1):=by
 unfold cfG
 rw [List.append_assoc,← List.replicate_succ']
theorem Rh {g:GmT} {num den:Int} {q a r k:Nat} (hr:r<q) (hk:k<((g.ch.getD a []).getD r []).length):(pq g num den q (a*q+r)).take (k+1)=(pq g num den q (a*q+r)).take k++[[(((g.ch.getD a []).getD r []).getD k []).getD 1 0,den*(((g.ch.getD a []).getD r []).getD k []).getD 2 0-num*(((g.ch.getD a []).getD r []).getD k []).getD 3 0]]:=by
 have hl:=Jv g num den q (a*q+r)
 obtain ⟨h1,h2⟩:=lC (i:=a) hr
 rw [h1,h2] at hl
 have hat:=Xy (g:=g) (num:=num) (den:=den) (q:=q) (e:=a*q+r) (k:=k) (by rw [h1,h2];exact hk)
 rw [h1,h2] at hat
 rw [eU (by omega) [],hat]
 rfl
set_option maxRecDepth 8000 in
set_option maxHeartbeats 4000000 in
theorem MF {m s:List (List Int)} {g:GmT} (hf:aU m s g) {num den:Int} (hn:0<=num/\num<=1000000) (hd:0<=den/\den<=1000000):bP Tryz.prog 100 [gI g,.int num,.int den] [] [] (.lf (.ptr 0 0)) (arO (cfX s g) (eH s g num den)):=by
 have hle:=hf.le
 have hcl:=hf.clen
 have hpl:=bI hf.prob
 have hq4:g.list.length*s.length<=60*4:=Nat.mul_le_mul hle (by omega)
 refine aZ Tryz.func100 rfl Tryz.ntmps100 aQ (fun _ _=>by kernel_rfl) rfl rfl rfl ?_
 intro M0 w0 S φ0
 rw [Tryz.results100]
 refine ah ?_
 (refine kJ 0 0 4 (.bo []) rfl rfl rfl (by first | trivial | (intro _ h;cases h)) ?_;simp only [xr,simprocAttr])
 (refine kJ 0 1 192 (.ki 2 []) rfl rfl rfl (by first | trivial | (intro _ h;cases h)) ?_;simp only [xr,simprocAttr])
 (refine tV 2 194 [] rfl rfl rfl ?_;simp only [xu,simprocAttr])
 refine ah ?_
 refine aA (α:=Nat) (fun k=>[(22,true,.int k)]) [0,1,2,7,21] (fun k=>arO (List.replicate k false) (List.replicate k [])) (fun k=>k<=g.list.length) (fun k=>g.list.length-k) 0 (by exact dJ) (Nat.zero_le _) fun k hk =>?_
 simp only [xr,simprocAttr]
 refine ah ?_
 refine aj amQ (fun hc =>?_) (fun hc =>?_)
 ·have hc:=of_decide_eq_true hc
  refine ah ?_
  (refine .inr (.inl (aJ [0,1,2] (VK (List.replicate k false) (List.replicate k []) false (by simp;omega) (by simp;omega)) rfl rfl rfl rfl ⟨rfl,rfl,rfl,trivial⟩ rfl rfl rfl rfl ?_));refine amC ?_)
  refine ah ?_
  refine ⟨k+1,by omega,by omega,.inl ?_⟩
  exact dw (by rw [List.replicate_succ',List.replicate_succ'])
 ·have hc:=of_decide_eq_false hc
  have hk':k=g.list.length:=by omega
  subst hk'
  refine ah ?_
  refine aA (α:=Nat) (fun a=>[(32,true,.int a)]) [0,1,2,7,30,31] (fun a=>arO (cfG g (a*s.length)) (arG g num den s.length a 0)) (fun a=>a<=g.list.length) (fun a=>g.list.length-a) 0 (by exact dw (by rw [Ri,Nat.zero_mul];unfold cfG;rw [List.replicate_zero,List.append_nil])) (Nat.zero_le _) fun a ha =>?_
  simp only [xr,simprocAttr]
  refine ah ?_
  refine aj amQ (fun hc2 =>?_) (fun hc2 =>?_)
  ·have hc2:=of_decide_eq_true hc2
   have ha':a<g.list.length:=by omega
   have hrl:=hf.c.len a (by omega)
   refine ah ?_
   refine aA (α:=Nat) (fun r=>[(39,true,.int r)]) [0,1,2,7,8,9,30,31,32,37,38] (fun r=>arO (cfG g (a*s.length+r)) (arG g num den s.length a r)) (fun r=>r<=s.length) (fun r=>s.length-r) 0 (by exact dJ) (Nat.zero_le _) fun r hr =>?_
   simp only [xr,simprocAttr]
   refine ah ?_
   refine aj amQ (fun hd2 =>?_) (fun hd2 =>?_)
   ·have hd2:=of_decide_eq_true hd2
    have hr':r<s.length:=by omega
    have hnl:=kP ha' hr'
    have hL1:=jd g (a*s.length+r)
    have hL2:=kG g num den s.length a r
    have hok:=hf.c.row a r (by omega) hr'
    have hrow4:=kQ hf.prob hok
    refine ah ?_
    (refine .inr (.inl (aJ [0,1,2] (VK (cfG g (a*s.length+r)) (arG g num den s.length a r) true (by omega) (by omega)) rfl rfl rfl rfl ⟨rfl,rfl,rfl,trivial⟩ rfl rfl rfl rfl ?_));refine amC ?_)
    refine ah ?_
    unfold arO
    have hlen:(Cn.ki 2 (arG g num den s.length a r++[[]])).len=g.list.length+(a*s.length+r)+1:=by show (arG g num den s.length a r++[[]]).length=_;simp [hL2]
    have hlen':(arG g num den s.length a r++[[]]).length=g.list.length+(a*s.length+r)+1:=by simp [hL2]
    have hrow:(arG g num den s.length a r++[[]]).getD a []=xB g.list.length s.length a r:=by
     show aG _ _=_
     rw [Ht,rH ha',if_neg (by omega),if_pos rfl]
    have hnl2:=jl g.list.length s.length a r
    (refine kH 2 (a) rfl amT ?_;simp only [xr,simprocAttr])
    rw [hrow,hL1]
    (refine amB ?_;refine gq 1 [(15,[4,3]),(17,[2,4])] [4,3] [(15,[]),(17,[])] ?_;refine xw ?_)
    rw [← Rj]
    refine ah ?_
    generalize hA0:(arG g num den s.length a r++[[]]).set a (xB g.list.length s.length a (r+1))=A0
    have hAl:A0.length=g.list.length+(a*s.length+r)+1:=by rw [← hA0,List.length_set,hlen']
    have hAK:aG A0 (g.list.length+(a*s.length+r))=[]:=by
     rw [← hA0,yQ _ _ _ _ (by omega),if_neg (by omega),Ht]
     unfold aG
     rw [List.getD_eq_getElem?_getD,List.getElem?_eq_none (by omega)]
     rfl
    have hA00:A0.set (g.list.length+(a*s.length+r)) ((pq g num den s.length (a*s.length+r)).take 0)=A0:=by
     refine xQ (by simp) fun v hv =>?_
     rw [yQ _ _ _ _ (by omega)]
     split
     ·rename_i e;rw [e,hAK];rfl
     ·rfl
    have hel:=Jv g num den s.length (a*s.length+r)
    rw [(lC hr').1,(lC hr').2] at hel
    refine aA (α:=Nat) (fun k=>[(64,true,.int k)]) [0,1,2,7,8,9,11,12,30,31,32,37,38,39,62,63] (fun k=>arO (cfG g (a*s.length+r)++[true]) (A0.set (g.list.length+(a*s.length+r)) ((pq g num den s.length (a*s.length+r)).take k))++[.gone,.gone]) (fun k=>k<=((g.ch.getD a []).getD r []).length) (fun k=>((g.ch.getD a []).getD r []).length-k) 0 (by ((try simp only [xk]);(repeat (refine jI ?_ ?_;first | (exact amE) | rotate_left));(refine mF ?_;exact (by rw [hA00]));(all_goals (try (simp only [xr,simprocAttr];try refine kM ?_))))) (Nat.zero_le _) fun k hk =>?_
    have htl:((pq g num den s.length (a*s.length+r)).take k).length=k:=by rw [List.length_take,hel];omega
    simp only [xr,simprocAttr]
    refine ah ?_
    refine aj amQ (fun he =>?_) (fun he =>?_)
    ·have he:=of_decide_eq_true he
     have hk':k<((g.ch.getD a []).getD r []).length:=by omega
     have hmem:((g.ch.getD a []).getD r []).getD k []∈(g.ch.getD a []).getD r []:=by rw [getD_in hk'];exact List.getElem_mem hk'
     obtain ⟨t,u,x,y,hce,ht,hu,hx0,hx1,hy0,hy1⟩:=hok.el _ hmem
     have hsucc:=Rh (g:=g) (num:=num) (den:=den) hr' hk'
     rw [hce] at hsucc
     have m1:=Int.mul_nonneg hd.1 hx0
     have m2:=Int.mul_le_mul hd.2 hx1 hx0 (by omega)
     have m3:=Int.mul_nonneg hn.1 hy0
     have m4:=Int.mul_le_mul hn.2 hy1 hy0 (by omega)
     have hlen2:(Cn.ki 2 (A0.set (g.list.length+(a*s.length+r)) ((pq g num den s.length (a*s.length+r)).take k))).len=g.list.length+(a*s.length+r)+1:=by show (A0.set _ _).length=_;rw [List.length_set,hAl]
     have hrowK:(A0.set (g.list.length+(a*s.length+r)) ((pq g num den s.length (a*s.length+r)).take k)).getD (g.list.length+(a*s.length+r)) []=(pq g num den s.length (a*s.length+r)).take k:=by
      show aG _ _=_
      rw [yQ _ _ _ _ (by omega),if_pos rfl]
     refine ah ?_
     rw [hce]
     simp only [xr,simprocAttr]
     (refine kH 2 (g.list.length+(a*s.length+r)) rfl amT ?_;simp only [xr,simprocAttr])
     rw [hrowK]
     (refine amB ?_;refine gq 1 [(28,[7,6]),(30,[2,7])] [7,6] [(28,[]),(30,[])] ?_;refine xw ?_)
     refine ah ?_
     have hsucc':(pq g num den s.length (a*s.length+r)).take (k+1)=(pq g num den s.length (a*s.length+r)).take k++[[(t:Int),den*x-num*y]]:=hsucc
     refine ⟨k+1,by omega,by omega,.inr ⟨5,Nat.le_of_ble_eq_true rfl,aT ?_ rfl rfl rfl⟩⟩
     exact dw (by rw [hsucc',List.set_set];rfl)
    ·have he:=of_decide_eq_false he
     have hk':k=((g.ch.getD a []).getD r []).length:=by omega
     have hfull:(pq g num den s.length (a*s.length+r)).take k=pq g num den s.length (a*s.length+r):=List.take_of_length_le (by omega)
     have hnext:=TB (g:=g) (num:=num) (den:=den) (q:=s.length) (r:=r) ha'
     rw [hA0] at hnext
     rw [hfull,hnext,TT]
     refine ah ?_
     refine ⟨r+1,by omega,by omega,.inr ⟨3,Nat.le_of_ble_eq_true rfl,aT ?_ rfl rfl rfl⟩⟩
     exact dJ
   ·have hd2:=of_decide_eq_false hd2
    have hr':r=s.length:=by omega
    subst hr'
    have hmul:(a+1)*s.length=a*s.length+s.length:=by rw [Nat.add_mul,Nat.one_mul]
    refine ah ?_
    refine ⟨a+1,by omega,by omega,.inl ?_⟩
    exact dw (by rw [← TA,hmul])
  ·have hc2:=of_decide_eq_false hc2
   have ha':a=g.list.length:=by omega
   subst ha'
   refine ah ?_
   (simp only [aC,aH];refine bf [0,1,2] rfl ⟨rfl,rfl,rfl,trivial⟩ rfl rfl rfl rfl rfl ?_;try rfl)
theorem Iu {w:List Int} {B:Int}:∀ k,mxN w k<=B↔∀ j,j<=k->w.getD j 0<=B
  | 0 => ⟨fun h j hj => by obtain rfl : j = 0 := by omega
                           exact h,fun h=>h 0 (Nat.le_refl _)⟩
  | k+1=>by
    show max (mxN w k) (w.getD (k+1) 0)<=B↔_
    have ih:=Iu (w:=w) (B:=B) k
    constructor
    · intro h j hj
      by_cases e:j=k+1
      · subst e;omega
      · exact ih.1 (by omega) j (by omega)
    · intro h
      have h1:=ih.2 fun j hj=>h j (by omega)
      have h2:=h (k+1) (Nat.le_refl _)
      omega
theorem UN {m s:List (List Int)} {g:GmT} (hf:aU m s g) {num den:Int} (hn:0<=num/\num<=1000000) (hd:0<=den/\den<=1000000):GmB m s g num den 119000000:=by
 have hcl:=hf.clen
 refine ⟨hf,hn.1,hd.1,fun i r k hi hr hk =>?_⟩
 have hrow:=hf.c.row i r (by omega) hr
 have hmem:((g.ch.getD i []).getD r []).getD k []∈(g.ch.getD i []).getD r []:=by rw [getD_in hk];exact List.getElem_mem hk
 obtain ⟨t,u,x,y,hce,ht,hu,hx0,hx1,hy0,hy1⟩:=hrow.el _ hmem
 have m1:=Int.mul_nonneg hd.1 hx0
 have m2:=Int.mul_le_mul hd.2 hx1 hx0 (by omega)
 have m3:=Int.mul_nonneg hn.1 hy0
 have m4:=Int.mul_le_mul hn.2 hy1 hy0 (by omega)
 rw [hce]
 show -119000000<=den*x-num*y/\den*x-num*y<=119000000
 omega
theorem xY {m s:List (List Int)} {g:GmT} (hf:aU m s g) {num den:Int} (hn:0<=num/\num<=5000000000) (hd:0<=den/\den<=5000000000):GmB m s g num den 595000000000:=by
 have hcl:=hf.clen
 refine ⟨hf,hn.1,hd.1,fun i r k hi hr hk =>?_⟩
 have hrow:=hf.c.row i r (by omega) hr
 have hmem:((g.ch.getD i []).getD r []).getD k []∈(g.ch.getD i []).getD r []:=by rw [getD_in hk];exact List.getElem_mem hk
 obtain ⟨t,u,x,y,hce,ht,hu,hx0,hx1,hy0,hy1⟩:=hrow.el _ hmem
 have m1:=Int.mul_nonneg hd.1 hx0
 have m2:=Int.mul_le_mul hd.2 hx1 hx0 (by omega)
 have m3:=Int.mul_nonneg hn.1 hy0
 have m4:=Int.mul_le_mul hn.2 hy1 hy0 (by omega)
 rw [hce]
 show -595000000000<=den*x-num*y/\den*x-num*y<=595000000000
 omega
theorem Jw {m s:List (List Int)} {g:GmT} (hf:aU m s g) {num den:Int}:∀ v,v<(cfX s g).length->(aG (eH s g num den) v).length<=1000:=fun v hv=>by
 have hpl:=bI hf.prob
 have hcl:=hf.clen
 rw [jd] at hv
 by_cases h:v<g.list.length
 ·rw [jU h,jl];omega
 ·obtain ⟨i,r,hi,hr,rfl⟩:=yD (Nat.not_lt.1 h) hv
  rw [jT hi hr,List.length_map]
  have:=kQ hf.prob (hf.c.row i r (by omega) hr)
  omega
theorem YK {m s:List (List Int)} {g:GmT} (hf:aU m s g) {num den:Int} (hn:0<=num/\num<=1000000) (hd:0<=den/\den<=1000000):∃ (W:List Int) (b:Int),W.length=(cfX s g).length/\0<W.length/\bP Tryz.prog 101 [aI (cfX s g) (eH s g num den)] [] [] (.tup [.one (.own 0),.one (.b (.val (.int .i64 b)))]) [.row 3 (.ints W)] /\
  (mxN W (W.length-1)<=b↔∃ C,CrP g.list.length (rqR s) (gmE g num den) C):=by
 have hB:=UN hf hn hd
 have hok:=Me hB (by omega)
 have hok2:=Oq hok
 have hle:=hf.le
 have hpl:=bI hf.prob
 have hpos:=hf.pos
 have hq4:g.list.length*s.length<=60*4:=Nat.mul_le_mul hle (by omega)
 have hcl:(cfX s g).length=g.list.length+g.list.length*s.length:=jd g (g.list.length*s.length)
 generalize hKd:moA (((eH s g num den).length:Int)+1) (eH s g num den) (eH s g num den).length=K
 have hA:=zO (((eH s g num den).length:Int)+1) (eH s g num den) (eH s g num den).length
 have hA1:=hA.1
 have hA2:=hA.2
 rw [hKd] at hA1 hA2 hok2
 have hal:(eH s g num den).length=g.list.length+g.list.length*s.length:=by rw [kG];omega
 have hmul0:=Int.mul_nonneg (show 0<=((eH s g num den).length:Int)+1 by omega) (show 0<=K by omega)
 obtain ⟨hc,ks,W,hX⟩:=zo (great:=4*((((eH s g num den).length:Int)+1)*K)) hok2 (show 0<=K by omega) (by omega)
 have hend:=OY hX hc hok2 (by omega)
 have hWl:W.length=(cfX s g).length:=by
  obtain ⟨ch',_,h2,_⟩:=hX.fin hc
  exact h2.len
 have hB2:GmB m s g num den ((K+1) / (((eH s g num den).length:Int)+1)):=⟨hf,hn.1,hd.1,fun i r k hi hr hk=>by
  have hnl:=kP hi hr
  have h1:=hA2 (g.list.length+(i*s.length+r)) (by omega) k (by rw [jT hi hr,List.length_map];exact hk)
  rw [jT hi hr,iw hk [] []] at h1
  have h2 : -K<=aW num den (((g.ch.getD i []).getD r []).getD k [])*(((eH s g num den).length:Int)+1)-1/\aW num den (((g.ch.getD i []).getD r []).getD k [])*(((eH s g num den).length:Int)+1)-1<=K:=h1
  have h3:aW num den (((g.ch.getD i []).getD r []).getD k [])<=(K+1) / (((eH s g num den).length:Int)+1):=Int.le_ediv_of_mul_le (by omega) (by omega)
  have h4 : -aW num den (((g.ch.getD i []).getD r []).getD k [])<=(K+1) / (((eH s g num den).length:Int)+1):=Int.le_ediv_of_mul_le (by omega) (by rw [Int.neg_mul];omega)
  omega⟩
 have hGK:(((eH s g num den).length:Int)+1)*((K+1) / (((eH s g num den).length:Int)+1))<=K+1:=Int.mul_ediv_self_le (by omega)
 have hG0:0<=(K+1) / (((eH s g num den).length:Int)+1):=Int.ediv_nonneg (by omega) (by omega)
 subst hKd
 refine ⟨W,_,hWl,by omega,LM hok (by omega) (by omega) (Jw hf) (by omega) hX,?_⟩
 rw [← OX hB2 hG0 hA1 hGK hend,Iu]
 constructor
 ·intro h v hv
  exact h v (by omega)
 ·intro h v hv
  exact h v (by omega)
end Go.Proofs.YtnblieajjclipaaGreat
