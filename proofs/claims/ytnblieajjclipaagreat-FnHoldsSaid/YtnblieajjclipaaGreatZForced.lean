/- Forced runs of games, on the machine. Conditions: those that each names. -/
import Derived.Test.YtnblieajjclipaaGreatZZMarkSz
set_option linter.all false
namespace Go.Proofs.YtnblieajjclipaaGreat
open Go Go.RowKit Am
def fA (g:GmT) (q:List (List Int)) (asks:List Int):Nat->Nat
 | 0=>0
 | k+1=>pY g q (fA g q asks k) (asks.getD (fA g q asks k) 0)
def cZ (g:GmT) (q:List (List Int)) (asks:List Int):Nat->List Int
 | 0=>[]
 | k+1=>cZ g q asks k++[asks.getD (fA g q asks k) 0]
def iW (g:GmT) (q:List (List Int)) (asks:List Int):Nat->Int
 | 0=>0
 | k+1=>iW g q asks k+(iU g q (fA g q asks k) (asks.getD (fA g q asks k) 0).toNat).getD 2 0
theorem qB (g:GmT) (q:List (List Int)) (asks:List Int):∀ k,(cZ g q asks k).length=k
 | 0=>rfl
 | k+1=>by simp [cZ,qB g q asks k]
section
variable {m s:List (List Int)} {g:GmT} {q:List (List Int)} {asks:List Int}
theorem Bg (hg:aU m s g) (hq:dP m s g q=true) (ha:iP s g asks=true):∀ k,fA g q asks k<g.list.length
 | 0=>hg.pos
 | k+1=>by
  have ih:=Bg hg hq ha k
  have hl:asks.length=g.list.length:=by
   unfold iP at ha
   rw [Bool.and_eq_true,beq_iff_eq] at ha
   exact ha.1
  obtain ⟨r,h1,h2,h3⟩:=qo hg ha (i:=fA g q asks k) (by omega)
  have h4:=hg.c.len _ h2
  have h5:=(yP hg hq ih (r:=r) (by omega)).2.1
  rw [← h1] at h5
  exact h5
theorem xR (hg:aU m s g) (hq:dP m s g q=true) (ha:iP s g asks=true):∀ k,0<=iW g q asks k/\iW g q asks k<=119*k
 | 0=>by simp [iW]
 | k+1=>by
  have ih:=xR hg hq ha k
  have hlt:=Bg hg hq ha k
  have hl:asks.length=g.list.length:=by
   unfold iP at ha
   rw [Bool.and_eq_true,beq_iff_eq] at ha
   exact ha.1
  obtain ⟨r,h1,h2,h3⟩:=qo hg ha (i:=fA g q asks k) (by omega)
  have h4:=hg.c.len _ h2
  have h5:=(yP hg hq hlt (r:=r) (by omega)).2.2
  unfold iW
  rw [h1,Int.toNat_natCast]
  omega
end
def foB (m s:List (List Int)) (x:Int) (asks:List Int) (q:List (List Int)) (n:Int):Bool := !(gmQ m s x).2 && iP s (gmQ m s x).1 asks && dP m s (gmQ m s x).1 q && rng n 0 60
def kX (m s:List (List Int)) (x:Int) (asks:List Int) (q:List (List Int)) (n:Int):List Int:=cZ (gmQ m s x).1 q asks n.toNat
def jH (m s:List (List Int)) (x:Int) (asks:List Int) (q:List (List Int)) (n:Int):Int:=iW (gmQ m s x).1 q asks n.toNat
theorem UC {m s:List (List Int)} {x:Int} {asks:List Int} {q:List (List Int)} {n:Int} (h:foB m s x asks q n=true):(gmQ m s x).2=false/\iP s (gmQ m s x).1 asks=true/\dP m s (gmQ m s x).1 q=true/\∃ k:Nat,n=k/\k<=60:=by
 unfold foB at h
 simp only [Bool.and_eq_true,Bool.not_eq_true',gK] at h
 obtain ⟨⟨⟨h1,h2⟩,h3⟩,h4,h5⟩:=h
 exact ⟨h1,h2,h3,n.toNat,by omega,by omega⟩
theorem acP {m s:List (List Int)} {x:Int} {asks:List Int} {q:List (List Int)} {n:Int} (h:foB m s x asks q n=false) (h1:(gmQ m s x).2=false):(bif bif !iP s (gmQ m s x).1 asks then true else !dP m s (gmQ m s x).1 q then true else !rng n 0 60)=true:=by
 unfold foB at h
 rw [h1] at h
 revert h
 cases iP s (gmQ m s x).1 asks<;>cases dP m s (gmQ m s x).1 q<;>cases rng n 0 60<;>decide
theorem Nr (n:Int):Does Tryz.prog 67 [.int n] (.imm (.bool (rng n 0 60))):=by
 refine aF Tryz.func67 rfl Tryz.ntmps67 aQ (fun _ _=>by kernel_rfl) rfl (Nat.le_of_ble_eq_true rfl) ?_
 intro M0 w0
 rw [Tryz.results67]
 refine ah ?_
 ((try refine Or.inl ?_);refine ⟨_,(ES _ _ _),.inl rfl,?_⟩;refine amC ?_)
 refine ah ?_
 refine bJ ?_
 rfl
set_option maxHeartbeats 2000000 in
theorem zG (m s:List (List Int)) (x:Int) (asks:List Int) (q:List (List Int)) (n:Int) (hb:foB m s x asks q n=true):bP Tryz.prog 27 [prA m s,.int x,.sl (.ints asks),.sl (.ii q),.int n] [] [] (.tup [.one (.own 0),.one (.b (.val (.int .i64 (jH m s x asks q n)))),bT true]) [.row 3 (.ints (kX m s x asks q n))]:=by
 obtain ⟨h1,h2,h3,z,rfl,hz⟩:=UC hb
 have hg:=fM h1
 refine aZ Tryz.func27 rfl Tryz.ntmps27 aQ (fun _ _=>by kernel_rfl) rfl rfl rfl ?_
 intro M0 w0 S φ0
 rw [Tryz.results27]
 refine ah ?_
 (refine .inr (.inl (aJ [] (rW h1) rfl rfl rfl rfl trivial rfl rfl rfl rfl ?_));refine amC ?_)
 rw [show kX m s x asks q z=cZ (gmQ m s x).1 q asks z by unfold kX;rw [Int.toNat_natCast],show jH m s x asks q z=iW (gmQ m s x).1 q asks z by unfold jH;rw [Int.toNat_natCast]]
 generalize (gmQ m s x).1=g at hg h2 h3
 have hcl:=hg.clen
 have hle:=hg.le
 have hql:q.length=g.list.length:=by
  unfold dP at h3
  simp only [Bool.and_eq_true,beq_iff_eq] at h3
  exact h3.1
 have hasl:asks.length=g.list.length:=by
  unfold iP at h2
  rw [Bool.and_eq_true,beq_iff_eq] at h2
  exact h2.1
 have hrg:rng (z:Int) 0 60=true:=gK.2 ⟨by omega,by omega⟩
 refine ah ?_
 ((try refine Or.inl ?_);refine ⟨_,(FD hg asks),.inl rfl,?_⟩;refine amC ?_)
 rw [h2]
 refine ah ?_
 ((try refine Or.inl ?_);refine ⟨_,(fun _=>yg m s g q (kE hg.prob)),.inl rfl,?_⟩;refine amC ?_)
 rw [h3]
 refine ah ?_
 ((try refine Or.inl ?_);refine ⟨_,(fun _=>Nr z),.inl rfl,?_⟩;refine amC ?_)
 rw [hrg]
 refine ah ?_
 refine aj amQ (fun hc =>?_) (fun hc =>?_)
 ·cases hc
 refine ah ?_
 refine aA (α:=Nat) (fun k=>[(48,true,.int k),(16,true,.int (iW g q asks k)),(17,true,.int (fA g q asks k))]) [2,3,13,15,47] (fun k=>[.box [.b (.sl (.ii m)),.b (.sl (.ii s))],.box [.own 2,.own 3],.row 112 (.k 2 g.list),.row 101 (.kii 6 g.ch),.row 3 (.ints (cZ g q asks k))]) (fun k=>k<=z) (fun k=>z-k) 0 (by exact bW) (Nat.zero_le _) fun k hk =>?_
 have hol:=qB g q asks k
 have hat:=Bg hg h3 h2 k
 have hsb:=xR hg h3 h2 k
 simp only [xr,simprocAttr]
 refine ah ?_
 refine aj amQ (fun hd =>?_) (fun hd =>?_)
 ·have hd:=of_decide_eq_true hd
  have hk':k<z:=by omega
  obtain ⟨r,hr1,hic,hr2⟩:=qo hg h2 (i:=fA g q asks k) (by omega)
  have hrl:=hg.c.len _ hic
  have hrs:r<s.length:=by omega
  obtain ⟨kk,hs⟩:=EC hg h3 hat hrs
  have hst:=yP hg h3 hat hrs
  have hst1:=hst.1
  have hqr:=hs.rl
  have hst2:fA g q asks (k+1)=pY g q (fA g q asks k) r:=by show pY g q (fA g q asks k) (asks.getD (fA g q asks k) 0)=_;rw [hr1]
  have hol2:cZ g q asks (k+1)=cZ g q asks k++[(r:Int)]:=by show cZ g q asks k++[asks.getD (fA g q asks k) 0]=_;rw [hr1]
  have hsu2:iW g q asks (k+1)=iW g q asks k+(iU g q (fA g q asks k) r).getD 2 0:=by show iW g q asks k+(iU g q (fA g q asks k) (asks.getD (fA g q asks k) 0).toNat).getD 2 0=_;rw [hr1,Int.toNat_natCast]
  refine ah ?_
  rw [hr1,Int.toNat_natCast]
  ((try refine Or.inl ?_);refine ⟨_,(TU hg h3 hat hrs),.inl rfl,?_⟩;refine amC ?_)
  refine ah ?_
  (refine amB ?_;refine iD [4] 3 [] (by kernel_rfl) (by kernel_rfl) (by kernel_rfl) (by kernel_rfl) (by kernel_rfl) ?_;refine amM ?_)
  refine amB ?_
  (refine lH 4 6 rfl rfl (by decide) rfl rfl ?_;simp only [xm,simprocAttr])
  refine ah ?_
  refine ⟨k+1,by omega,by omega,.inr ⟨5,Nat.le_of_ble_eq_true rfl,aT ?_ rfl rfl rfl⟩⟩
  exact dw (by first | rfl | (rw [hol2];rfl) | rw [hol2])
 ·have hd:=of_decide_eq_false hd
  have hk':k=z:=by omega
  subst hk'
  refine ah ?_
  (simp only [aC,aH];refine qL (vs:=[_,_,_]) [4] rfl ⟨rfl,trivial⟩ rfl rfl rfl rfl ⟨rfl,rfl,rfl,trivial⟩ ?_;try rfl)
set_option maxHeartbeats 2000000 in
theorem Ad (m s:List (List Int)) (x:Int) (asks:List Int) (q:List (List Int)) (n:Int):Does Tryz.prog 28 [prA m s,.int x,.sl (.ints asks),.sl (.ii q),.int n] (.imm (.tup [.one (.b (.sl (.ints (if foB m s x asks q n=true then kX m s x asks q n else [])))),.one (.b (.val (.int .i64 (if foB m s x asks q n=true then jH m s x asks q n else 0)))),bT (foB m s x asks q n)])):=by
 refine aF Tryz.func28 rfl Tryz.ntmps28 aQ (fun _ _=>by kernel_rfl) rfl (Nat.le_of_ble_eq_true rfl) ?_
 intro M0 w0
 rw [Tryz.results28]
 refine ah ?_
 cases h1:(gmQ m s x).2
 ·have hg:=fM h1
  have ht:=gV h1
  ((try refine Or.inl ?_);refine ⟨_,(fC ht),amF,?_⟩;refine amC ?_)
  rw [h1]
  refine ah ?_
  ((try refine Or.inl ?_);refine ⟨_,(Gi hg _ asks),.inl rfl,?_⟩;refine amC ?_)
  refine ah ?_
  ((try refine Or.inl ?_);refine ⟨_,(fun _=>uV m s _ _ q hg),.inl rfl,?_⟩;refine amC ?_)
  refine ah ?_
  ((try refine Or.inl ?_);refine ⟨_,(fun _=>Nw _ _ _),.inl rfl,?_⟩;refine amC ?_)
  refine ah ?_
  cases hb:foB m s x asks q n
  ·have hn:=acP hb h1
   refine aj amQ (fun hc =>?_) (fun hc =>?_)
   ·refine jC ?_
    (refine aK 2 rfl ?_;simp only [xz,simprocAttr])
    refine ah ?_
    (simp only [xe,simprocAttr];refine ⟨[_,_,_],⟨rfl,rfl,rfl,trivial⟩,rfl,Imp.eq ?_⟩)
    rfl
   ·have hx:=hn.symm.trans hc
    cases hx
  ·obtain ⟨-,h2,h3,z,rfl,hz⟩:=UC hb
   have hrg:rng (z:Int) 0 60=true:=gK.2 ⟨by omega,by omega⟩
   rw [h2,h3,hrg,show kX m s x asks q z=cZ (gmQ m s x).1 q asks z by unfold kX;rw [Int.toNat_natCast],show jH m s x asks q z=iW (gmQ m s x).1 q asks z by unfold jH;rw [Int.toNat_natCast]]
   generalize (gmQ m s x).1=g at hg h2 h3
   have hcl:=hg.clen
   have hle:=hg.le
   have hl4:(ch4 g.ch).length=g.ch.length:=by simp [ch4]
   have hql:q.length=g.list.length:=by
    unfold dP at h3
    simp only [Bool.and_eq_true,beq_iff_eq] at h3
    exact h3.1
   have hasl:asks.length=g.list.length:=by
    unfold iP at h2
    rw [Bool.and_eq_true,beq_iff_eq] at h2
    exact h2.1
   refine aj amQ (fun hc =>?_) (fun hc =>?_)
   ·cases hc
   refine ah ?_
   refine aA (α:=Nat) (fun k=>[(18,true,.int k),(16,true,.int (iW g q asks k)),(17,true,.int (fA g q asks k))]) [2,3,4,13,15] (fun k=>[.box [.b (.sl (.ii m)),.b (.sl (.ii s))],.box [.b (.sl (.k 2 g.list)),.b (.sl (.kii 4 (ch4 g.ch))),.b (.val (.bool false))],.row 3 (.ints (cZ g q asks k))]) (fun k=>k<=z) (fun k=>z-k) 0 (by exact bW) (Nat.zero_le _) fun k hk =>?_
   have hol:=qB g q asks k
   have hat:=Bg hg h3 h2 k
   have hsb:=xR hg h3 h2 k
   simp only [xr,simprocAttr]
   refine ah ?_
   refine aj amQ (fun hd =>?_) (fun hd =>?_)
   ·have hd:=of_decide_eq_true hd
    have hk':k<z:=by omega
    obtain ⟨r,hr1,hic,hr2⟩:=qo hg h2 (i:=fA g q asks k) (by omega)
    have hrl:=hg.c.len _ hic
    have hrs:r<s.length:=by omega
    obtain ⟨kk,hs⟩:=EC hg h3 hat hrs
    have hst:=yP hg h3 hat hrs
    have hst1:=hst.1
    have hqr:=hs.rl
    have h4:=lJ hic
    have h4l:((ch4 g.ch).getD (fA g q asks k) []).length=(g.ch.getD (fA g q asks k) []).length:=by rw [h4,List.length_map]
    have h42:=lZ hic hr2
    have hst2:fA g q asks (k+1)=pY g q (fA g q asks k) r:=by show pY g q (fA g q asks k) (asks.getD (fA g q asks k) 0)=_;rw [hr1]
    have hol2:cZ g q asks (k+1)=cZ g q asks k++[(r:Int)]:=by show cZ g q asks k++[asks.getD (fA g q asks k) 0]=_;rw [hr1]
    have hsu2:iW g q asks (k+1)=iW g q asks k+(iU g q (fA g q asks k) r).getD 2 0:=by show iW g q asks k+(iU g q (fA g q asks k) (asks.getD (fA g q asks k) 0).toNat).getD 2 0=_;rw [hr1,Int.toNat_natCast]
    have hml:(((g.ch.getD (fA g q asks k) []).getD r []).map c4).length=((g.ch.getD (fA g q asks k) []).getD r []).length:=by simp
    have hsa:E5 ((g.ch.getD (fA g q asks k) []).getD r []) ((q.getD (fA g q asks k) []).getD r 0)=kk:=hs.at_
    have hslt:kk<((g.ch.getD (fA g q asks k) []).getD r []).length:=hs.lt
    have hse:(((g.ch.getD (fA g q asks k) []).getD r []).map c4).getD kk []=c4 (iU g q (fA g q asks k) r):=by
     rw [iw hslt [] [],hs.eq]
     rfl
    refine ah ?_
    rw [hr1,Int.toNat_natCast,h42]
    (refine amB ?_;refine iD [] 0 [] (by kernel_rfl) (by kernel_rfl) (by kernel_rfl) (by kernel_rfl) (by kernel_rfl) ?_;refine amM ?_)
    rw [hr1,Int.toNat_natCast]
    ((try refine Or.inl ?_);refine ⟨_,(Az _ _),.inl rfl,?_⟩;refine amC ?_)
    rw [hsa,Int.toNat_natCast,hse]
    simp only [c4]
    refine ah ?_
    refine ⟨k+1,by omega,by omega,.inr ⟨3,Nat.le_of_ble_eq_true rfl,aT ?_ rfl rfl rfl⟩⟩
    exact dw (by first | rfl | (rw [hol2];rfl) | rw [hol2])
   ·have hd:=of_decide_eq_false hd
    have hk':k=z:=by omega
    subst hk'
    refine jC ?_
    (refine aK 2 rfl ?_;simp only [xz,simprocAttr])
    refine ah ?_
    (simp only [xe,simprocAttr];refine ⟨[_,_,_],⟨rfl,rfl,rfl,trivial⟩,rfl,Imp.eq ?_⟩)
    rfl
 ·have hb:foB m s x asks q n=false:=by unfold foB;rw [h1];rfl
  rw [hb]
  cases ht:bH m s x []
  ·((try refine Or.inl ?_);refine ⟨_,(kY ht),amF,?_⟩;refine amC ?_)
   refine ah ?_
   iterate 3
    refine .inl ⟨.bool false,.inl rfl,?_⟩
    simp only [xr,simprocAttr]
    refine amS ?_
    refine ah ?_
   refine aj amQ (fun hc =>?_) (fun hc =>?_)
   ·refine jC ?_
    (refine aK 2 rfl ?_;simp only [xz,simprocAttr])
    refine ah ?_
    (simp only [xe,simprocAttr];refine ⟨[_,_,_],⟨rfl,rfl,rfl,trivial⟩,rfl,Imp.eq ?_⟩)
    rfl
   ·cases hc
  ·((try refine Or.inl ?_);refine ⟨_,(fC ht),amF,?_⟩;refine amC ?_)
   rw [h1]
   refine ah ?_
   iterate 3
    refine .inl ⟨.bool false,.inl rfl,?_⟩
    simp only [xr,simprocAttr]
    refine amS ?_
    refine ah ?_
   refine aj amQ (fun hc =>?_) (fun hc =>?_)
   ·refine jC ?_
    (refine aK 2 rfl ?_;simp only [xz,simprocAttr])
    refine ah ?_
    (simp only [xe,simprocAttr];refine ⟨[_,_,_],⟨rfl,rfl,rfl,trivial⟩,rfl,Imp.eq ?_⟩)
    rfl
   ·cases hc
theorem Bz {n x B:Int} (h0:0<=n) (h1:n<=60) (h2 : -B<=x) (h3:x<=B) (hB:0<=B) : -(60*B)<=n*x/\n*x<=60*B:=by
 have e1:n*x<=n*B:=Int.mul_le_mul_of_nonneg_left h3 h0
 have e2:n*B<=60*B:=Int.mul_le_mul_of_nonneg_right h1 hB
 have e3:n*(-B)<=n*x:=Int.mul_le_mul_of_nonneg_left h2 h0
 rw [Int.mul_neg] at e3
 omega
theorem Ou {m s:List (List Int)} {g:GmT} (hg:aU m s g) {a:Int×Int} {tab:List Int} {i:Nat} {c:List Int} (h:Td a tab i c):Does Tryz.prog 58 [gI g,six c,frA a] (.imm (.int (1-(g.list.length:Int)*(aW a.1 a.2 c+c.getD 3 0)))):=by
 obtain ⟨h1,h2,h3,h4,h5,h6,h7,h8,h9,h10,h11⟩:=h
 have hgc:aW a.1 a.2 c=a.2*c.getD 2 0-a.1*c.getD 3 0:=rfl
 have hle:=hg.le
 have hm:=Bz (n:=(g.list.length:Int)) (x:=aW a.1 a.2 c+c.getD 3 0) (B:=200000000000000) (by omega) (by omega) (by omega) (by omega) (by omega)
 refine aF Tryz.func58 rfl Tryz.ntmps58 aQ (fun _ _=>by kernel_rfl) rfl (Nat.le_of_ble_eq_true rfl) ?_
 intro M0 w0
 rw [Tryz.results58]
 refine ah ?_
 ((try refine Or.inl ?_);refine ⟨_,(UL c a h7 (by omega) h9 (by omega)),.inl rfl,?_⟩;refine amC ?_)
 refine ah ?_
 refine bJ ?_
 rfl
theorem pJ {s:List (List Int)} {g:GmT} {num den:Int} {asks debts delays:List Int}:holdB s g num den asks debts delays=true↔iP s g asks=true/\kR g debts=true/\kR g delays=true/\∀ i,i<asks.length->∀ k,k<((g.ch.getD i []).getD (asks.getD i 0).toNat []).length->lV g num den debts delays i (((g.ch.getD i []).getD (asks.getD i 0).toNat []).getD k [])=true:=by
 unfold holdB
 rw [Bool.and_eq_true,Bool.and_eq_true,Bool.and_eq_true,List.all_eq_true,and_assoc,and_assoc]
 refine and_congr_right fun _=>and_congr_right fun _=>and_congr_right fun _=>⟨fun h i hi k hk =>?_,fun h i hi =>?_⟩
 ·exact List.all_eq_true.1 (h i (List.mem_range.2 hi)) _ (by rw [getD_in hk];exact List.getElem_mem hk)
 ·rw [List.mem_range] at hi
  refine List.all_eq_true.2 fun c hc =>?_
  obtain ⟨k,hk,rfl⟩:=List.getElem_of_mem hc
  have h1:=h i hi k hk
  rwa [getD_in hk] at h1
theorem J8 {s:List (List Int)} {g:GmT} {num den:Int} {asks debts delays:List Int} {i k:Nat} (hi:i<asks.length) (hk:k<((g.ch.getD i []).getD (asks.getD i 0).toNat []).length) (h:lV g num den debts delays i (((g.ch.getD i []).getD (asks.getD i 0).toNat []).getD k [])=false):holdB s g num den asks debts delays=false:=by
 rw [Bool.eq_false_iff]
 intro e
 have:=(pJ.1 e).2.2.2 i hi k hk
 rw [h] at this
 cases this
def preB (s:List (List Int)) (g:GmT) (asks debts delays:List Int):Bool:=iP s g asks && kR g debts && kR g delays
theorem F7 {s:List (List Int)} {g:GmT} {num den:Int} {asks debts delays:List Int} (h:preB s g asks debts delays=false):holdB s g num den asks debts delays=false:=by
 unfold preB at h
 unfold holdB
 rw [h]
 rfl
theorem Qs {s:List (List Int)} {g:GmT} {asks debts delays:List Int} (h:preB s g asks debts delays=true):iP s g asks=true/\tbB g.list.length debts=true/\tbB g.list.length delays=true:=by
 unfold preB at h
 rw [Bool.and_eq_true,Bool.and_eq_true,and_assoc] at h
 exact h
theorem GI {s:List (List Int)} {g:GmT} {asks debts delays:List Int}:(bif bif !iP s g asks then true else !tbB g.list.length debts then true else !tbB g.list.length delays) = !preB s g asks debts delays:=by
 unfold preB
 rw [show kR g debts=tbB g.list.length debts from rfl,show kR g delays=tbB g.list.length delays from rfl]
 cases iP s g asks<;>cases tbB g.list.length debts<;>cases tbB g.list.length delays<;>rfl
def holdV (m s:List (List Int)) (x:Int) (a:Int×Int) (asks debts delays:List Int):Bool:=okB m s x a && holdB s (gmQ m s x).1 a.1 a.2 asks debts delays
theorem UW {g:GmT} {num den:Int} {debts delays:List Int} {i:Nat} {c:List Int} {L:Int} (hL:L=delays.getD (toC c) 0) :
  lV g num den debts delays i c = !(bif decide (aW num den c+debts.getD i 0<debts.getD (toC c) 0) then true else decide (delays.getD i 0<L+(1-(g.list.length:Int)*(aW num den c+c.getD 3 0)))):=by
 subst hL
 unfold lV
 congr 1
 rw [Bool.cond_true_left]
 congr 1
 rw [decide_eq_decide]
 omega
set_option maxHeartbeats 2000000 in
theorem uT (m s:List (List Int)) (x:Int) (a:Int×Int) (asks debts delays:List Int):Does Tryz.prog 17 [prA m s,.int x,frA a,.sl (.ints asks),.sl (.ints debts),.sl (.ints delays)] (.imm (b2V (holdV m s x a asks debts delays) (okB m s x a))):=by
 refine aF Tryz.func17 rfl Tryz.ntmps17 aQ (fun _ _=>by kernel_rfl) rfl (Nat.le_of_ble_eq_true rfl) ?_
 intro M0 w0
 rw [Tryz.results17]
 (refine bY 3 rfl fun hf =>?_;simp only [xp,simprocAttr] at hf;simp only [xf,simprocAttr] at hf)
 refine ah ?_
 cases hb:(gmQ m s x).2
 ·have hg:=fM hb
  have hle:=hg.le
  have hcl:=hg.clen
  (refine .inr (.inl (aJ [] (rW hb) rfl rfl rfl rfl trivial rfl rfl rfl rfl ?_));refine amC ?_)
  refine ah ?_
  ((try refine Or.inl ?_);refine ⟨_,(F8 a),.inl rfl,?_⟩;refine amC ?_)
  refine ah ?_
  cases hr:jA a
  ·refine aj amQ (fun hc =>?_) (fun hc =>?_)
   ·refine ah ?_
    (simp only [xe,simprocAttr];refine ⟨[_,_],⟨rfl,rfl,trivial⟩,rfl,Imp.eq ?_⟩)
    unfold holdV okB
    rw [hb,hr]
    rfl
   ·cases hc
  ·have hV:holdV m s x a asks debts delays=holdB s (gmQ m s x).1 a.1 a.2 asks debts delays:=by unfold holdV okB;rw [hb,hr];rfl
   have hO:okB m s x a=true:=by unfold okB;rw [hb,hr];rfl
   rw [hV,hO]
   generalize (gmQ m s x).1=g at hg hle hcl
   refine aj amQ (fun hc =>?_) (fun hc =>?_)
   ·cases hc
   refine ah ?_
   ((try refine Or.inl ?_);refine ⟨_,(FD hg asks),.inl rfl,?_⟩;refine amC ?_)
   refine ah ?_
   ((try refine Or.inl ?_);refine ⟨_,(fun _=>xC debts g.list.length (by omega)),.inl rfl,?_⟩;refine amC ?_)
   refine ah ?_
   ((try refine Or.inl ?_);refine ⟨_,(fun _=>xC delays g.list.length (by omega)),.inl rfl,?_⟩;refine amC ?_)
   refine ah ?_
   rw [GI]
   cases hp:preB s g asks debts delays
   ·refine aj amQ (fun hc =>?_) (fun hc =>?_)
    ·refine ah ?_
     (simp only [xe,simprocAttr];refine ⟨[_,_],⟨rfl,rfl,trivial⟩,rfl,Imp.eq ?_⟩)
     rw [F7 hp]
    ·cases hc
   refine aj amQ (fun hc =>?_) (fun hc =>?_)
   ·cases hc
   obtain ⟨hA,hD,hE⟩:=Qs hp
   refine ah ?_
   refine aA (α:=Nat) (fun i=>[(59,true,.int i)]) [4,5,8,14,57,58] (fun _=>[.box [.b (.sl (.ii m)),.b (.sl (.ii s))],.box [.b (.val (.int .i64 a.1)),.b (.val (.int .i64 a.2))],.box [.own 3,.own 4],.row 112 (.k 2 g.list),.row 101 (.kii 6 g.ch)]) (fun i=>i<=asks.length/\∀ j,j<i->∀ k,k<((g.ch.getD j []).getD (asks.getD j 0).toNat []).length->lV g a.1 a.2 debts delays j (((g.ch.getD j []).getD (asks.getD j 0).toNat []).getD k [])=true) (fun i=>asks.length-i) 0 (by exact bW) ⟨Nat.zero_le _,fun j hj=>by omega⟩ fun i hi =>?_
   obtain ⟨hi,hal⟩:=hi
   simp only [xr,simprocAttr]
   refine ah ?_
   refine aj amQ (fun hd =>?_) (fun hd =>?_)
   ·have hd:=of_decide_eq_true hd
    have hi':i<asks.length:=by omega
    obtain ⟨r,hr1,hic,hr2⟩:=qo hg hA hi'
    obtain ⟨hok,hil,hrs⟩:=WM hg hic hr2
    have hrl:=kQ hg.prob hok
    refine ah ?_
    rw [hr1,Int.toNat_natCast]
    refine aA (α:=Nat) (fun k=>[(75,true,.int k)]) [4,5,8,14,16,57,58,59,73,74] (fun _=>[.box [.b (.sl (.ii m)),.b (.sl (.ii s))],.box [.b (.val (.int .i64 a.1)),.b (.val (.int .i64 a.2))],.box [.own 3,.own 4],.row 112 (.k 2 g.list),.row 101 (.kii 6 g.ch)]) (fun k=>k<=((g.ch.getD i []).getD r []).length/\∀ q,q<k->lV g a.1 a.2 debts delays i (((g.ch.getD i []).getD r []).getD q [])=true) (fun k=>((g.ch.getD i []).getD r []).length-k) 0 (by exact bW) ⟨Nat.zero_le _,fun j hj=>by omega⟩ fun k hk =>?_
    obtain ⟨hk,hrow⟩:=hk
    simp only [xr,simprocAttr]
    refine ah ?_
    refine aj amQ (fun he =>?_) (fun he =>?_)
    ·have he:=of_decide_eq_true he
     have hk':k<((g.ch.getD i []).getD r []).length:=by omega
     have hka:=Bd (JV hok hk') hr hD hil
     have hkb:=Bd (JV hok hk') hr hE hil
     obtain ⟨h1,h2,h3,h5,h6,h7,h8,h9,h10,h11,h12⟩:=hka
     have hkb2:=hkb
     obtain ⟨-,-,j3,j5,j6,j7,-⟩:=hkb2
     have hcv:lV g a.1 a.2 debts delays i (((g.ch.getD i []).getD r []).getD k [])=_:=UW (L:=delays.getD (toC (((g.ch.getD i []).getD r []).getD k [])) 0) rfl
     have hm:=Bz (n:=(g.list.length:Int)) (x:=aW a.1 a.2 (((g.ch.getD i []).getD r []).getD k [])+(((g.ch.getD i []).getD r []).getD k []).getD 3 0) (B:=200000000000000) (by omega) (by omega) (by unfold aW;omega) (by unfold aW;omega) (by omega)
     have hgc:aW a.1 a.2 (((g.ch.getD i []).getD r []).getD k [])=a.2*(((g.ch.getD i []).getD r []).getD k []).getD 2 0-a.1*(((g.ch.getD i []).getD r []).getD k []).getD 3 0:=rfl
     have e1:debts.getD ((((g.ch.getD i []).getD r []).getD k []).getD 1 0).toNat 0=debts.getD (toC (((g.ch.getD i []).getD r []).getD k [])) 0:=rfl
     have e2:delays.getD ((((g.ch.getD i []).getD r []).getD k []).getD 1 0).toNat 0=delays.getD (toC (((g.ch.getD i []).getD r []).getD k [])) 0:=rfl
     refine ah ?_
     ((try refine Or.inl ?_);refine ⟨_,(UL (((g.ch.getD i []).getD r []).getD k []) a h8 (by omega) h10 (by omega)),.inl rfl,?_⟩;refine amC ?_)
     refine ah ?_
     ((try refine Or.inl ?_);refine ⟨_,(fun _=>Ou hg hkb),.inl rfl,?_⟩;refine amC ?_)
     refine ah ?_
     cases hn:lV g a.1 a.2 debts delays i (((g.ch.getD i []).getD r []).getD k [])
     ·refine aj amQ (fun hx =>?_) (fun hx =>?_)
      ·refine ah ?_
       (simp only [xe,simprocAttr];refine ⟨[_,_],⟨rfl,rfl,trivial⟩,rfl,Imp.eq ?_⟩)
       rw [J8 hi' (by rw [hr1,Int.toNat_natCast];exact hk') (by rw [hr1,Int.toNat_natCast];exact hn)]
      ·exfalso
       rw [hcv] at hn
       have hx':=hn.symm.trans (congrArg (fun b => !b) hx)
       cases hx'
     ·refine aj amQ (fun hx =>?_) (fun hx =>?_)
      ·exfalso
       rw [hcv] at hn
       have hx':=hn.symm.trans (congrArg (fun b => !b) hx)
       cases hx'
      ·refine ah ?_
       refine ⟨k+1,by omega,fun q hq =>?_,by omega,.inr ⟨5,Nat.le_of_ble_eq_true rfl,aT ?_ rfl rfl rfl⟩⟩
       ·rcases Nat.lt_or_ge q k with h1 | h1
        ·exact hrow q h1
        ·obtain rfl:q=k:=by omega
         exact hn
       ·exact bW
    ·have he:=of_decide_eq_false he
     have hk':k=((g.ch.getD i []).getD r []).length:=by omega
     subst hk'
     refine ah ?_
     refine ⟨i+1,by omega,fun j hj =>?_,by omega,.inl ?_⟩
     ·rcases Nat.lt_or_ge j i with h1 | h1
      ·exact hal j h1
      ·obtain rfl:j=i:=by omega
       rw [hr1,Int.toNat_natCast]
       exact hrow
     ·exact bW
   ·have hd:=of_decide_eq_false hd
    have hi':i=asks.length:=by omega
    subst hi'
    refine ah ?_
    (simp only [xe,simprocAttr];refine ⟨[_,_],⟨rfl,rfl,trivial⟩,rfl,Imp.eq ?_⟩)
    rw [pJ.2 ⟨hA,hD,hE,hal⟩]
 ·have ho:okB m s x a=false:=by unfold okB;rw [hb];rfl
  (refine .inr (.inl (gJ (xX hb) rfl rfl rfl rfl rfl rfl rfl ?_));refine amC ?_)
  refine ah ?_
  refine .inl ⟨.bool false,.inl rfl,?_⟩
  simp only [xr,simprocAttr]
  refine amS ?_
  refine ah ?_
  refine aj amQ (fun hc =>?_) (fun hc =>?_)
  ·refine ah ?_
   (simp only [xe,simprocAttr];refine ⟨[_,_],⟨rfl,rfl,trivial⟩,rfl,Imp.eq ?_⟩)
   unfold holdV
   rw [ho]
   rfl
  ·cases hc
theorem Ry {g:GmT} {num den:Int} {debts delays:List Int} {i:Nat} {c:List Int} {L:Int} (hL:L=delays.getD (toC c) 0) :
  lV g num den debts delays i c = !(bif decide (aW num den c+debts.getD i 0<debts.getD (toC c) 0) then true else decide ((g.list.length:Int)*(aW num den c+c.getD 3 0)+delays.getD i 0<L+1)):=by
 subst hL
 unfold lV
 rw [Bool.cond_true_left]
set_option maxHeartbeats 2000000 in
theorem RF {m s:List (List Int)} {g:GmT} (hg:aU m s g) (b:Bool) {a:Int×Int} (ha:jA a=true) (asks debts delays:List Int):Does Tryz.prog 60 [gA g b,frA a,.sl (.ints asks),.sl (.ints debts),.sl (.ints delays)] (.imm (.bool (holdB s g a.1 a.2 asks debts delays))):=by
 have hle:=hg.le
 have hcl:=hg.clen
 have hpl:=bI hg.prob
 have hl4:(ch4 g.ch).length=g.ch.length:=by simp [ch4]
 refine aF Tryz.func60 rfl Tryz.ntmps60 aQ (fun _ _=>by kernel_rfl) rfl (Nat.le_of_ble_eq_true rfl) ?_
 intro M0 w0
 rw [Tryz.results60]
 (refine bY 2 rfl fun hf =>?_;simp only [xp,simprocAttr] at hf;simp only [xf,simprocAttr] at hf)
 refine ah ?_
 ((try refine Or.inl ?_);refine ⟨_,(Gi hg b asks),.inl rfl,?_⟩;refine amC ?_)
 refine ah ?_
 ((try refine Or.inl ?_);refine ⟨_,(fun _=>Dy g b debts (by omega)),.inl rfl,?_⟩;refine amC ?_)
 refine ah ?_
 ((try refine Or.inl ?_);refine ⟨_,(fun _=>Dy g b delays (by omega)),.inl rfl,?_⟩;refine amC ?_)
 refine ah ?_
 rw [GI]
 cases hp:preB s g asks debts delays
 ·refine aj amQ (fun hc =>?_) (fun hc =>?_)
  ·refine ah ?_
   refine bJ ?_
   rw [F7 hp]
  ·cases hc
 refine aj amQ (fun hc =>?_) (fun hc =>?_)
 ·cases hc
 obtain ⟨hA,hD,hE⟩:=Qs hp
 refine ah ?_
 refine aA (α:=Nat) (fun i=>[(11,true,.int i)]) [2,3,4,5,6] (fun _=>[.box [.b (.sl (.k 2 g.list)),.b (.sl (.kii 4 (ch4 g.ch))),.b (.val (.bool b))],.box [.b (.val (.int .i64 a.1)),.b (.val (.int .i64 a.2))]]) (fun i=>i<=asks.length/\∀ j,j<i->∀ k,k<((g.ch.getD j []).getD (asks.getD j 0).toNat []).length->lV g a.1 a.2 debts delays j (((g.ch.getD j []).getD (asks.getD j 0).toNat []).getD k [])=true) (fun i=>asks.length-i) 0 (by exact bW) ⟨Nat.zero_le _,fun j hj=>by omega⟩ fun i hi =>?_
 obtain ⟨hi,hal⟩:=hi
 simp only [xr,simprocAttr]
 refine ah ?_
 refine aj amQ (fun hd =>?_) (fun hd =>?_)
 ·have hd:=of_decide_eq_true hd
  have hi':i<asks.length:=by omega
  obtain ⟨r,hr1,hic,hr2⟩:=qo hg hA hi'
  obtain ⟨hok,hil,hrs⟩:=WM hg hic hr2
  have hrl:=kQ hg.prob hok
  have h4:=lJ hic
  have h4l:((ch4 g.ch).getD i []).length=(g.ch.getD i []).length:=by rw [h4,List.length_map]
  have h42:=lZ hic hr2
  have h42l:(((g.ch.getD i []).getD r []).map c4).length=((g.ch.getD i []).getD r []).length:=by rw [List.length_map]
  refine ah ?_
  rw [hr1,Int.toNat_natCast,h42]
  refine aA (α:=Nat) (fun k=>[(13,true,.int k)]) [2,3,4,5,6,11,12] (fun _=>[.box [.b (.sl (.k 2 g.list)),.b (.sl (.kii 4 (ch4 g.ch))),.b (.val (.bool b))],.box [.b (.val (.int .i64 a.1)),.b (.val (.int .i64 a.2))]]) (fun k=>k<=((g.ch.getD i []).getD r []).length/\∀ q,q<k->lV g a.1 a.2 debts delays i (((g.ch.getD i []).getD r []).getD q [])=true) (fun k=>((g.ch.getD i []).getD r []).length-k) 0 (by exact bW) ⟨Nat.zero_le _,fun j hj=>by omega⟩ fun k hk =>?_
  obtain ⟨hk,hrow⟩:=hk
  simp only [xr,simprocAttr]
  refine ah ?_
  refine aj amQ (fun he =>?_) (fun he =>?_)
  ·have he:=of_decide_eq_true he
   have hk':k<((g.ch.getD i []).getD r []).length:=by omega
   have hka:=Bd (JV hok hk') ha hD hil
   have hkb:=Bd (JV hok hk') ha hE hil
   obtain ⟨h1,h2,h3,h5,h6,h7,h8,h9,h10,h11,h12⟩:=hka
   obtain ⟨-,-,j3,j5,j6,j7,-⟩:=hkb
   have hse:(((g.ch.getD i []).getD r []).map c4).getD k []=c4 (((g.ch.getD i []).getD r []).getD k []):=iw hk' [] []
   have hcv:lV g a.1 a.2 debts delays i (((g.ch.getD i []).getD r []).getD k [])=_:=Ry (L:=delays.getD (toC (((g.ch.getD i []).getD r []).getD k [])) 0) rfl
   have hm:=Bz (n:=(g.list.length:Int)) (x:=aW a.1 a.2 (((g.ch.getD i []).getD r []).getD k [])+(((g.ch.getD i []).getD r []).getD k []).getD 3 0) (B:=200000000000000) (by omega) (by omega) (by unfold aW;omega) (by unfold aW;omega) (by omega)
   have hgc:aW a.1 a.2 (((g.ch.getD i []).getD r []).getD k [])=a.2*(((g.ch.getD i []).getD r []).getD k []).getD 2 0-a.1*(((g.ch.getD i []).getD r []).getD k []).getD 3 0:=rfl
   have e0:(c4 (((g.ch.getD i []).getD r []).getD k [])).getD 1 0=(((g.ch.getD i []).getD r []).getD k []).getD 1 0:=rfl
   have e3:(c4 (((g.ch.getD i []).getD r []).getD k [])).getD 3 0=(((g.ch.getD i []).getD r []).getD k []).getD 3 0:=rfl
   have e1:debts.getD ((((g.ch.getD i []).getD r []).getD k []).getD 1 0).toNat 0=debts.getD (toC (((g.ch.getD i []).getD r []).getD k [])) 0:=rfl
   have e2:delays.getD ((((g.ch.getD i []).getD r []).getD k []).getD 1 0).toNat 0=delays.getD (toC (((g.ch.getD i []).getD r []).getD k [])) 0:=rfl
   refine ah ?_
   rw [hse]
   ((try refine Or.inl ?_);refine ⟨_,(Ij a),.inl rfl,?_⟩;refine amC ?_)
   ((try refine Or.inl ?_);refine ⟨_,(zJ (((g.ch.getD i []).getD r []).getD k []) a h8 (by omega) h10 (by omega)),.inl rfl,?_⟩;refine amC ?_)
   refine L9 ?_
   rw [hse,e0,e3]
   refine amS ?_
   refine ah ?_
   cases hn:lV g a.1 a.2 debts delays i (((g.ch.getD i []).getD r []).getD k [])
   ·refine aj amQ (fun hx =>?_) (fun hx =>?_)
    ·refine ah ?_
     refine bJ ?_
     rw [J8 hi' (by rw [hr1,Int.toNat_natCast];exact hk') (by rw [hr1,Int.toNat_natCast];exact hn)]
    ·exfalso
     rw [hcv] at hn
     have hx':=hn.symm.trans (congrArg (fun b => !b) hx)
     cases hx'
   ·refine aj amQ (fun hx =>?_) (fun hx =>?_)
    ·exfalso
     rw [hcv] at hn
     have hx':=hn.symm.trans (congrArg (fun b => !b) hx)
     cases hx'
    ·refine ah ?_
     refine ⟨k+1,by omega,fun q hq =>?_,by omega,.inl ?_⟩
     ·rcases Nat.lt_or_ge q k with h1 | h1
      ·exact hrow q h1
      ·obtain rfl:q=k:=by omega
       exact hn
     ·exact bW
  ·have he:=of_decide_eq_false he
   have hk':k=((g.ch.getD i []).getD r []).length:=by omega
   subst hk'
   refine ah ?_
   refine ⟨i+1,by omega,fun j hj =>?_,by omega,.inl ?_⟩
   ·rcases Nat.lt_or_ge j i with h1 | h1
    ·exact hal j h1
    ·obtain rfl:j=i:=by omega
     rw [hr1,Int.toNat_natCast]
     exact hrow
   ·exact bW
 ·have hd:=of_decide_eq_false hd
  have hi':i=asks.length:=by omega
  subst hi'
  refine ah ?_
  refine bJ ?_
  rw [pJ.2 ⟨hA,hD,hE,hal⟩]
theorem uZ (m s:List (List Int)) (x:Int) (a:Int×Int) (asks debts delays:List Int):Does Tryz.prog 18 [prA m s,.int x,frA a,.sl (.ints asks),.sl (.ints debts),.sl (.ints delays)] (.imm (b2V (holdV m s x a asks debts delays) (okB m s x a))):=by
 refine aF Tryz.func18 rfl Tryz.ntmps18 aQ (fun _ _=>by kernel_rfl) rfl (Nat.le_of_ble_eq_true rfl) ?_
 intro M0 w0
 rw [Tryz.results18]
 refine ah ?_
 cases hb:(gmQ m s x).2
 ·have hf:=fM hb
  have ht:=gV hb
  ((try refine Or.inl ?_);refine ⟨_,(fC ht),amF,?_⟩;refine amC ?_)
  rw [hb]
  refine ah ?_
  ((try refine Or.inl ?_);refine ⟨_,(RQ a),.inl rfl,?_⟩;refine amC ?_)
  refine ah ?_
  cases hr:jA a
  ·refine aj amQ (fun hc =>?_) (fun hc =>?_)
   ·refine ah ?_
    (simp only [xe,simprocAttr];refine ⟨[_,_],⟨rfl,rfl,trivial⟩,rfl,Imp.eq ?_⟩)
    unfold holdV okB
    rw [hb,hr]
    rfl
   ·cases hc
  ·refine aj amQ (fun hc =>?_) (fun hc =>?_)
   ·cases hc
   refine ah ?_
   ((try refine Or.inl ?_);refine ⟨_,(RF hf _ hr asks debts delays),.inl rfl,?_⟩;refine amC ?_)
   refine ah ?_
   (simp only [xe,simprocAttr];refine ⟨[_,_],⟨rfl,rfl,trivial⟩,rfl,Imp.eq ?_⟩)
   unfold holdV okB
   rw [hb,hr]
   rfl
 ·have ho:okB m s x a=false:=by unfold okB;rw [hb];rfl
  cases ht:bH m s x []
  ·((try refine Or.inl ?_);refine ⟨_,(kY ht),amF,?_⟩;refine amC ?_)
   refine ah ?_
   refine .inl ⟨.bool false,.inl rfl,?_⟩
   simp only [xr,simprocAttr]
   refine amS ?_
   refine ah ?_
   refine aj amQ (fun hc =>?_) (fun hc =>?_)
   ·refine ah ?_
    (simp only [xe,simprocAttr];refine ⟨[_,_],⟨rfl,rfl,trivial⟩,rfl,Imp.eq ?_⟩)
    unfold holdV
    rw [ho]
    rfl
   ·cases hc
  ·((try refine Or.inl ?_);refine ⟨_,(fC ht),amF,?_⟩;refine amC ?_)
   rw [hb]
   refine ah ?_
   refine .inl ⟨.bool false,.inl rfl,?_⟩
   simp only [xr,simprocAttr]
   refine amS ?_
   refine ah ?_
   refine aj amQ (fun hc =>?_) (fun hc =>?_)
   ·refine ah ?_
    (simp only [xe,simprocAttr];refine ⟨[_,_],⟨rfl,rfl,trivial⟩,rfl,Imp.eq ?_⟩)
    unfold holdV
    rw [ho]
    rfl
   ·cases hc
end Go.Proofs.YtnblieajjclipaaGreat
