/- Arenas on the machine: the arena of a game. Conditions: games that are whole, ratios in bounds. -/
import Derived.Test.YtkcelmnbfbehbaaGreatRA3
set_option linter.all false
namespace Go.Proofs.YtkcelmnbfbehbaaGreat
open Go Go.RowKit Am
theorem xP {xs ys:List (List (List Int))} (hl:xs.length=ys.length) (h:∀ v,v<ys.length->aF xs v=aF ys v):xs=ys :=
 List.ext_getElem hl fun v hv hv'=>by
  have:=h v hv'
  unfold aF at this
  simpa [List.getD_eq_getElem?_getD,hv,hv'] using this
theorem yJ (xs:List (List (List Int))) (v u:Nat) (x:List (List Int)) (hv:v<xs.length):aF (xs.set v x) u=if u=v then x else aF xs u:=by
 unfold aF
 simp only [List.getD_eq_getElem?_getD,List.getElem?_set]
 by_cases e:v=u
 ·subst e;simp [hv]
 ·rw [if_neg e,if_neg fun e2=>e e2.symm]
theorem G6 (xs:List (List (List Int))) (u:Nat):aF (xs++[[]]) u=aF xs u:=by
 unfold aF
 simp only [List.getD_eq_getElem?_getD]
 by_cases h:u<xs.length
 ·rw [List.getElem?_append_left h]
 ·rw [List.getElem?_append_right (by omega),List.getElem?_eq_none (Nat.not_lt.1 h)]
  by_cases e:u-xs.length=0
  ·rw [e];rfl
  ·rw [List.getElem?_eq_none (by simp;omega)]
theorem QM (n q j c:Nat):xA n q j (c+1)=xA n q j c++[[((n+(j*q+c):Nat):Int),0]]:=by simp [xA,List.range_succ]
theorem SX {g:GmT} {num den:Int} {q a r:Nat} (ha:a<g.list.length):((arG g num den q a r++[[]]).set a (xA g.list.length q a (r+1))).set (g.list.length+(a*q+r)) (qg g num den q (a*q+r))=arG g num den q a (r+1):=by
 have hl:=mD g num den q a r
 have hl2:=mD g num den q a (r+1)
 refine xP (by simp [hl,hl2];omega) fun v hv =>?_
 rw [hl2] at hv
 rw [yJ _ _ _ _ (by simp [hl]),yJ _ _ _ _ (by simp [hl];omega),G6]
 by_cases h1:v=g.list.length+(a*q+r)
 ·rw [if_pos h1,h1,yZ (by omega)]
 ·rw [if_neg h1]
  by_cases h2:v=a
  ·rw [if_pos h2,h2,rZ ha,if_neg (by omega),if_pos rfl]
  ·rw [if_neg h2]
   by_cases h3:v<g.list.length
   ·rw [rZ h3,rZ h3,if_neg h2,if_neg h2]
   ·obtain ⟨e,rfl⟩:=Nat.exists_eq_add_of_le (Nat.not_lt.1 h3)
    rw [yZ (by omega),yZ (by omega)]
theorem SV {g:GmT} {num den:Int} {q a:Nat}:arG g num den q a q=arG g num den q (a+1) 0:=by
 have hl:=mD g num den q a q
 have hl2:=mD g num den q (a+1) 0
 have he:(a+1)*q+0=a*q+q:=by rw [Nat.add_mul];omega
 refine xP (by rw [hl,hl2,he]) fun v hv =>?_
 rw [hl2] at hv
 by_cases h3:v<g.list.length
 ·rw [rZ h3,rZ h3]
  congr 1
  by_cases h4:v<a+1
  ·rw [if_pos h4]
   by_cases h5:v<a
   ·rw [if_pos h5]
   ·rw [if_neg h5,if_pos (by omega)]
  ·rw [if_neg h4,if_neg (by omega),if_neg (by omega)]
   split<;>rfl
 ·obtain ⟨e,rfl⟩:=Nat.exists_eq_add_of_le (Nat.not_lt.1 h3)
  rw [yZ (by omega),yZ (by omega)]
theorem QL (g:GmT) (num den:Int) (q:Nat):arG g num den q 0 0=List.replicate g.list.length []:=by
 refine xP (by rw [mD];simp) fun v hv =>?_
 have hv:v<g.list.length:=by simpa using hv
 rw [rZ hv,if_neg (by omega),show (if v=0 then 0 else 0)=0 by split<;>rfl]
 simp [xA,aF,hv]
theorem TI (g:GmT) (k:Nat):cfG g k++[true]=cfG g (k+1):=by
 unfold cfG
 rw [List.append_assoc,← List.replicate_succ']
theorem QK {g:GmT} {num den:Int} {q a r k:Nat} (hr:r<q) (hk:k<((g.ch.getD a []).getD r []).length):(qg g num den q (a*q+r)).take (k+1)=(qg g num den q (a*q+r)).take k++[[(((g.ch.getD a []).getD r []).getD k []).getD 1 0,den*(((g.ch.getD a []).getD r []).getD k []).getD 2 0-num*(((g.ch.getD a []).getD r []).getD k []).getD 3 0]]:=by
 have hl:=Jj g num den q (a*q+r)
 obtain ⟨h1,h2⟩:=lG (i:=a) hr
 rw [h1,h2] at hl
 have hat:=Xx (g:=g) (num:=num) (den:=den) (q:=q) (e:=a*q+r) (k:=k) (by rw [h1,h2];exact hk)
 rw [h1,h2] at hat
 rw [eH (by omega) [],hat]
 rfl
set_option maxRecDepth 8000 in
set_option maxHeartbeats 4000000 in
theorem LZ {m s:List (List Int)} {g:GmT} (hf:dD m s g) {num den:Int} (hn:0<=num/\num<=1000000) (hd:0<=den/\den<=1000000):bG Tryz.prog 103 [gI g,.int num,.int den] [] [] (.lf (.ptr 0 0)) (arO (cfX s g) (iC s g num den)):=by
 have hle:=hf.le
 have hcl:=hf.clen
 have hpl:=aQ hf.prob
 have hq4:g.list.length*s.length<=60*4:=Nat.mul_le_mul hle (by omega)
 refine bY Tryz.func103 rfl Tryz.ntmps103 aX (fun _ _=>by kernel_rfl) rfl rfl rfl ?_
 intro M0 w0 S φ0
 rw [Tryz.results103]
 refine ah ?_
 (refine iZ 0 0 4 (.bo []) rfl rfl rfl (by first | trivial | (intro _ h;cases h)) ?_;simp only [xr,simprocAttr])
 (refine iZ 0 1 197 (.ki 2 []) rfl rfl rfl (by first | trivial | (intro _ h;cases h)) ?_;simp only [xr,simprocAttr])
 (refine kQ 2 199 [] rfl rfl rfl ?_;simp only [xu,simprocAttr])
 refine ah ?_
 refine au (α:=Nat) (fun k=>[(22,true,.int k)]) [0,1,2,7,21] (fun k=>arO (List.replicate k false) (List.replicate k [])) (fun k=>k<=g.list.length) (fun k=>g.list.length-k) 0 (by exact aV) (Nat.zero_le _) fun k hk =>?_
 simp only [xr,simprocAttr]
 refine ah ?_
 refine aj amQ (fun hc =>?_) (fun hc =>?_)
 ·have hc:=of_decide_eq_true hc
  refine ah ?_
  (refine .inr (.inl (bP [0,1,2] (VQ (List.replicate k false) (List.replicate k []) false (by simp;omega) (by simp;omega)) rfl rfl rfl rfl ⟨rfl,rfl,rfl,trivial⟩ rfl rfl rfl rfl ?_));refine amC ?_)
  refine ah ?_
  refine ⟨k+1,by omega,by omega,.inl ?_⟩
  exact bI (by rw [List.replicate_succ',List.replicate_succ'])
 ·have hc:=of_decide_eq_false hc
  have hk':k=g.list.length:=by omega
  subst hk'
  refine ah ?_
  refine au (α:=Nat) (fun a=>[(32,true,.int a)]) [0,1,2,7,30,31] (fun a=>arO (cfG g (a*s.length)) (arG g num den s.length a 0)) (fun a=>a<=g.list.length) (fun a=>g.list.length-a) 0 (by exact bI (by rw [QL,Nat.zero_mul];unfold cfG;rw [List.replicate_zero,List.append_nil])) (Nat.zero_le _) fun a ha =>?_
  simp only [xr,simprocAttr]
  refine ah ?_
  refine aj amQ (fun hc2 =>?_) (fun hc2 =>?_)
  ·have hc2:=of_decide_eq_true hc2
   have ha':a<g.list.length:=by omega
   have hrl:=hf.c.len a (by omega)
   refine ah ?_
   refine au (α:=Nat) (fun r=>[(39,true,.int r)]) [0,1,2,7,8,9,30,31,32,37,38] (fun r=>arO (cfG g (a*s.length+r)) (arG g num den s.length a r)) (fun r=>r<=s.length) (fun r=>s.length-r) 0 (by exact aV) (Nat.zero_le _) fun r hr =>?_
   simp only [xr,simprocAttr]
   refine ah ?_
   refine aj amQ (fun hd2 =>?_) (fun hd2 =>?_)
   ·have hd2:=of_decide_eq_true hd2
    have hr':r<s.length:=by omega
    have hnl:=mM ha' hr'
    have hL1:=jd g (a*s.length+r)
    have hL2:=mD g num den s.length a r
    have hok:=hf.c.row a r (by omega) hr'
    have hrow4:=oU hf.prob hok
    refine ah ?_
    (refine .inr (.inl (bP [0,1,2] (VQ (cfG g (a*s.length+r)) (arG g num den s.length a r) true (by omega) (by omega)) rfl rfl rfl rfl ⟨rfl,rfl,rfl,trivial⟩ rfl rfl rfl rfl ?_));refine amC ?_)
    refine ah ?_
    unfold arO
    have hlen:(Cn.ki 2 (arG g num den s.length a r++[[]])).len=g.list.length+(a*s.length+r)+1:=by show (arG g num den s.length a r++[[]]).length=_;simp [hL2]
    have hlen':(arG g num den s.length a r++[[]]).length=g.list.length+(a*s.length+r)+1:=by simp [hL2]
    have hrow:(arG g num den s.length a r++[[]]).getD a []=xA g.list.length s.length a r:=by
     show aF _ _=_
     rw [G6,rZ ha',if_neg (by omega),if_pos rfl]
    have hnl2:=jy g.list.length s.length a r
    (refine kP 2 (a) rfl amT ?_;simp only [xr,simprocAttr])
    rw [hrow,hL1]
    (refine amB ?_;refine bM 1 [(15,[4,3]),(17,[2,4])] [4,3] [(15,[]),(17,[])] ?_;refine mg ?_)
    rw [← QM]
    refine ah ?_
    generalize hA0:(arG g num den s.length a r++[[]]).set a (xA g.list.length s.length a (r+1))=A0
    have hAl:A0.length=g.list.length+(a*s.length+r)+1:=by rw [← hA0,List.length_set,hlen']
    have hAK:aF A0 (g.list.length+(a*s.length+r))=[]:=by
     rw [← hA0,yJ _ _ _ _ (by omega),if_neg (by omega),G6]
     unfold aF
     rw [List.getD_eq_getElem?_getD,List.getElem?_eq_none (by omega)]
     rfl
    have hA00:A0.set (g.list.length+(a*s.length+r)) ((qg g num den s.length (a*s.length+r)).take 0)=A0:=by
     refine xP (by simp) fun v hv =>?_
     rw [yJ _ _ _ _ (by omega)]
     split
     ·rename_i e;rw [e,hAK];rfl
     ·rfl
    have hel:=Jj g num den s.length (a*s.length+r)
    rw [(lG hr').1,(lG hr').2] at hel
    refine au (α:=Nat) (fun k=>[(64,true,.int k)]) [0,1,2,7,8,9,11,12,30,31,32,37,38,39,62,63] (fun k=>arO (cfG g (a*s.length+r)++[true]) (A0.set (g.list.length+(a*s.length+r)) ((qg g num den s.length (a*s.length+r)).take k))++[.gone,.gone]) (fun k=>k<=((g.ch.getD a []).getD r []).length) (fun k=>((g.ch.getD a []).getD r []).length-k) 0 (by ((try simp only [xk]);(repeat (refine fP ?_ ?_;first | (exact amE) | rotate_left));(refine gZ ?_;exact (by rw [hA00]));(all_goals (try (simp only [xr,simprocAttr];try refine gQ ?_))))) (Nat.zero_le _) fun k hk =>?_
    have htl:((qg g num den s.length (a*s.length+r)).take k).length=k:=by rw [List.length_take,hel];omega
    simp only [xr,simprocAttr]
    refine ah ?_
    refine aj amQ (fun he =>?_) (fun he =>?_)
    ·have he:=of_decide_eq_true he
     have hk':k<((g.ch.getD a []).getD r []).length:=by omega
     have hmem:((g.ch.getD a []).getD r []).getD k []∈(g.ch.getD a []).getD r []:=by rw [getD_in hk'];exact List.getElem_mem hk'
     obtain ⟨t,u,x,y,hce,ht,hu,hx0,hx1,hy0,hy1⟩:=hok.el _ hmem
     have hsucc:=QK (g:=g) (num:=num) (den:=den) hr' hk'
     rw [hce] at hsucc
     have m1:=Int.mul_nonneg hd.1 hx0
     have m2:=Int.mul_le_mul hd.2 hx1 hx0 (by omega)
     have m3:=Int.mul_nonneg hn.1 hy0
     have m4:=Int.mul_le_mul hn.2 hy1 hy0 (by omega)
     have hlen2:(Cn.ki 2 (A0.set (g.list.length+(a*s.length+r)) ((qg g num den s.length (a*s.length+r)).take k))).len=g.list.length+(a*s.length+r)+1:=by show (A0.set _ _).length=_;rw [List.length_set,hAl]
     have hrowK:(A0.set (g.list.length+(a*s.length+r)) ((qg g num den s.length (a*s.length+r)).take k)).getD (g.list.length+(a*s.length+r)) []=(qg g num den s.length (a*s.length+r)).take k:=by
      show aF _ _=_
      rw [yJ _ _ _ _ (by omega),if_pos rfl]
     refine ah ?_
     rw [hce]
     simp only [xr,simprocAttr]
     (refine kP 2 (g.list.length+(a*s.length+r)) rfl amT ?_;simp only [xr,simprocAttr])
     rw [hrowK]
     (refine amB ?_;refine bM 1 [(28,[7,6]),(30,[2,7])] [7,6] [(28,[]),(30,[])] ?_;refine mg ?_)
     refine ah ?_
     have hsucc':(qg g num den s.length (a*s.length+r)).take (k+1)=(qg g num den s.length (a*s.length+r)).take k++[[(t:Int),den*x-num*y]]:=hsucc
     refine ⟨k+1,by omega,by omega,.inr ⟨5,Nat.le_of_ble_eq_true rfl,aJ ?_ rfl rfl rfl⟩⟩
     exact bI (by rw [hsucc',List.set_set];rfl)
    ·have he:=of_decide_eq_false he
     have hk':k=((g.ch.getD a []).getD r []).length:=by omega
     have hfull:(qg g num den s.length (a*s.length+r)).take k=qg g num den s.length (a*s.length+r):=List.take_of_length_le (by omega)
     have hnext:=SX (g:=g) (num:=num) (den:=den) (q:=s.length) (r:=r) ha'
     rw [hA0] at hnext
     rw [hfull,hnext,TI]
     refine ah ?_
     refine ⟨r+1,by omega,by omega,.inr ⟨3,Nat.le_of_ble_eq_true rfl,aJ ?_ rfl rfl rfl⟩⟩
     exact aV
   ·have hd2:=of_decide_eq_false hd2
    have hr':r=s.length:=by omega
    subst hr'
    have hmul:(a+1)*s.length=a*s.length+s.length:=by rw [Nat.add_mul,Nat.one_mul]
    refine ah ?_
    refine ⟨a+1,by omega,by omega,.inl ?_⟩
    exact bI (by rw [← SV,hmul])
  ·have hc2:=of_decide_eq_false hc2
   have ha':a=g.list.length:=by omega
   subst ha'
   refine ah ?_
   (simp only [aG,aN];refine dw [0,1,2] rfl ⟨rfl,rfl,rfl,trivial⟩ rfl rfl rfl rfl rfl ?_;try rfl)
theorem NR {w:List Int} {B:Int}:∀ k,mxN w k<=B↔∀ j,j<=k->w.getD j 0<=B
  | 0 => ⟨fun h j hj => by obtain rfl : j = 0 := by omega
                           exact h,fun h=>h 0 (Nat.le_refl _)⟩
  | k+1=>by
    show max (mxN w k) (w.getD (k+1) 0)<=B↔_
    have ih:=NR (w:=w) (B:=B) k
    constructor
    · intro h j hj
      by_cases e:j=k+1
      · subst e;omega
      · exact ih.1 (by omega) j (by omega)
    · intro h
      have h1:=ih.2 fun j hj=>h j (by omega)
      have h2:=h (k+1) (Nat.le_refl _)
      omega
theorem zq {m s:List (List Int)} {g:GmT} (hf:dD m s g) {num den:Int} (hn:0<=num/\num<=1000000) (hd:0<=den/\den<=1000000):GmB m s g num den 119000000:=by
 have hcl:=hf.clen
 refine ⟨hf,hn.1,hd.1,fun i r k hi hr hk =>?_⟩
 have hrow:=hf.c.row i r (by omega) hr
 have hmem:((g.ch.getD i []).getD r []).getD k []∈(g.ch.getD i []).getD r []:=by rw [getD_in hk];exact List.getElem_mem hk
 obtain ⟨t,u,x,y,hce,ht,hu,hx0,hx1,hy0,hy1⟩:=hrow.el _ hmem
 have m1:=Int.mul_nonneg hd.1 hx0
 have m2:=Int.mul_le_mul hd.2 hx1 hx0 (by omega)
 have m3:=Int.mul_nonneg hn.1 hy0
 have m4:=Int.mul_le_mul hn.2 hy1 hy0 (by omega)
 rw [hce]
 show -119000000<=den*x-num*y/\den*x-num*y<=119000000
 omega
theorem Tc {m s:List (List Int)} {g:GmT} (hf:dD m s g) {num den:Int}:∀ v,v<(cfX s g).length->(aF (iC s g num den) v).length<=1000:=fun v hv=>by
 have hpl:=aQ hf.prob
 have hcl:=hf.clen
 rw [jd] at hv
 by_cases h:v<g.list.length
 ·rw [kC h,jy];omega
 ·obtain ⟨i,r,hi,hr,rfl⟩:=yx (Nat.not_lt.1 h) hv
  rw [nC hi hr,List.length_map]
  have:=oU hf.prob (hf.c.row i r (by omega) hr)
  omega
end Go.Proofs.YtkcelmnbfbehbaaGreat
