/- Numbers that a law writes through a result and reads again: the plain laws. Conditions: none. -/
import Derived.Test.YtnblieajjclipaaGreatZRU
set_option linter.all false
namespace Go.Proofs.YtnblieajjclipaaGreat
end Go.Proofs.YtnblieajjclipaaGreat
namespace Go.Proofs.YtnblieajjclipaaGreat
open Go Go.RowKit Am
abbrev Cu:=List Int×Int×Int
def sdN (sd b:Int):Int:=IntKind.u64.wrap (IntKind.u64.wrap (IntKind.u64.wrap (sd*6364136223846793005)+b)+462197)
def Hg (w:World) (g:Nat) (v1 v2:Value) (w':World):Prop:=∃ n m,w'=(((w.drewN n).setCell ⟨g,1,none⟩ v1).setCell ⟨g,2,none⟩ v2).drewN m
theorem yC {w:World} {g n:Nat} {v0 u1 u2 v1 v2:Value} (h0:w.cell? ⟨g,0,none⟩=some v0) (h1:w.cell? ⟨g,1,none⟩=some u1) (h2:w.cell? ⟨g,2,none⟩=some u2) :
  (((w.drewN n).setCell ⟨g,1,none⟩ v1).setCell ⟨g,2,none⟩ v2).cell? ⟨g,0,none⟩=some v0/\(((w.drewN n).setCell ⟨g,1,none⟩ v1).setCell ⟨g,2,none⟩ v2).cell? ⟨g,1,none⟩=some v1/\(((w.drewN n).setCell ⟨g,1,none⟩ v1).setCell ⟨g,2,none⟩ v2).cell? ⟨g,2,none⟩=some v2:=by
 have k1:((w.drewN n).setCell ⟨g,1,none⟩ v1).cell? ⟨g,2,none⟩=some u2:=(World.cell?_setCell_other _ _ _ _ (by simp)).trans h2
 have k2:((w.drewN n).setCell ⟨g,1,none⟩ v1).cell? ⟨g,1,none⟩=some v1:=World.cell?_setCell_same _ _ _ h1
 have k3:((w.drewN n).setCell ⟨g,1,none⟩ v1).cell? ⟨g,0,none⟩=some v0:=(World.cell?_setCell_other _ _ _ _ (by simp)).trans h0
 exact ⟨(World.cell?_setCell_other _ _ _ _ (by simp)).trans k3,(World.cell?_setCell_other _ _ _ _ (by simp)).trans k2,World.cell?_setCell_same _ _ _ k1⟩
theorem Ym (w:World) (g cap:Nat) (ad:Addr) (bs:List Int) (p:Nat) (sd b:Int) (h0:w.cell? ⟨g,0,none⟩=some (.slice (some ad) bs.length cap)) (h1:w.cell? ⟨g,1,none⟩=some (.int .i64 p)) (h2:w.cell? ⟨g,2,none⟩=some (.int .u64 sd))
  (f1:w.frozen? ⟨g,1,none⟩=false) (f2:w.frozen? ⟨g,2,none⟩=false) (hp:p<bs.length) (hl:(bs.length:Int)<=9223372036854775807) (hb:w.cell? (ad.add p)=some (.int .u8 b)) (hb0:0<=b) (hb1:b<256) :
  Calls Tryz.prog 164 #[.pointer (some ⟨g,0,none⟩)] w fun e w'=>e = .returned (.int .i64 b)/\Hg w g (.int .i64 (p+1)) (.int .u64 (sdN sd b)) w':=by
 have hle:((p:Int)+1<=bs.length):=by omega
 have hwb:wrap64 b=b:=IntWalk.wrap64_in b ⟨by omega,by omega⟩
 go_enter Tryz.func164,Tryz.ntmps164
 go_wp2_with fail
 go_quiet (fail)
 go_wp2_with fail
 go_quiet (fail)
 go_wp2_with fail
 rename_i nq1 _ _ _ _
 have hnq:∃ nq2,nq2=nq:=⟨_,rfl⟩
 obtain ⟨nq2,rfl⟩:=hnq
 obtain ⟨k0,k1,k2⟩:=yC (n:=nq1+nq2) (v1 := .int .i64 (p+1)) (v2 := .int .u64 (sdN sd b)) h0 h1 h2
 show Code.wp _ _ _ _ (((w.drewN (nq1+nq2)).setCell ⟨g,1,none⟩ (.int .i64 (p+1))).setCell ⟨g,2,none⟩ (.int .u64 (sdN sd b)))
 generalize hW:((w.drewN (nq1+nq2)).setCell ⟨g,1,none⟩ (.int .i64 (p+1))).setCell ⟨g,2,none⟩ (.int .u64 (sdN sd b))=W at k0 k1 k2 ⊢
 go_quiet (fail)
 go_wp2_with fail
 go_ret
 exact ⟨rfl,nq1+nq2,_,by rw [hW]⟩
def nxO (sd:Int):Int:=wrap64 (bits .and .u64 (sdN sd 0 / 1099511627776) 255)
theorem YN (n:Int):0<=IntKind.u64.wrap n/\IntKind.u64.wrap n<18446744073709551616:=by
 have h:IntKind.u64.wrap n=n % 18446744073709551616:=rfl
 omega
theorem Yn (sd:Int):0<=nxO sd/\nxO sd<256:=by
 have h1:=YN (IntKind.u64.wrap (IntKind.u64.wrap (sd*6364136223846793005)+0)+462197)
 have h2:0<=sdN sd 0/\sdN sd 0<18446744073709551616:=h1
 have h:=bits_nat .u64 63 (by decide) (fun n h1 h2=>IntWalk.u64_in n ⟨by omega,by have e:(2:Int) ^ 63=9223372036854775808:=(by decide);omega⟩) (sdN sd 0 / 1099511627776).toNat 255 (by have e:2 ^ 63=9223372036854775808:=(by decide);omega) (by decide)
 rw [Int.toNat_of_nonneg (by omega)] at h
 have h3:((sdN sd 0 / 1099511627776).toNat &&& 255)<=255:=Nat.and_le_right
 unfold nxO
 rw [show (255:Int)=((255:Nat):Int) from rfl,h.1,IntWalk.wrap64_in _ ⟨by omega,by omega⟩]
 omega
theorem VI (w:World) (g cap:Nat) (A:Option Addr) (n:Nat) (p:Nat) (sd:Int) (h0:w.cell? ⟨g,0,none⟩=some (.slice A n cap)) (h1:w.cell? ⟨g,1,none⟩=some (.int .i64 p)) (h2:w.cell? ⟨g,2,none⟩=some (.int .u64 sd))
  (f1:w.frozen? ⟨g,1,none⟩=false) (f2:w.frozen? ⟨g,2,none⟩=false) (hp:n<=p) (hp2:p<1000000000000) (hl:(n:Int)<=9223372036854775807) :
  Calls Tryz.prog 164 #[.pointer (some ⟨g,0,none⟩)] w fun e w'=>e = .returned (.int .i64 (nxO sd))/\Hg w g (.int .i64 (p+1)) (.int .u64 (sdN sd 0)) w':=by
 have hle:decide ((p:Int)<n)=false:=by simp;omega
 have hle2:decide ((p:Int)+1<=n)=false:=by simp;omega
 go_enter Tryz.func164,Tryz.ntmps164
 go_wp2_with fail
 go_quiet (fail)
 go_wp2_with fail
 have hnq:∃ nq2,nq2=nq:=⟨_,rfl⟩
 obtain ⟨nq2,rfl⟩:=hnq
 obtain ⟨k0,k1,k2⟩:=yC (n:=nq2) (v1 := .int .i64 (p+1)) (v2 := .int .u64 (IntKind.u64.wrap (IntKind.u64.wrap (IntKind.u64.wrap (sd*6364136223846793005))+462197))) h0 h1 h2
 generalize hW:((w.drewN nq2).setCell ⟨g,1,none⟩ (.int .i64 (p+1))).setCell ⟨g,2,none⟩ _=W at k0 k1 k2 ⊢
 go_quiet (fail)
 go_wp2_with fail
 go_ret
 have e:sdN sd 0=IntKind.u64.wrap (IntKind.u64.wrap (IntKind.u64.wrap (sd*6364136223846793005))+462197):=by simp [sdN]
 exact ⟨by unfold nxO;rw [e];rfl,nq2,nq,by rw [← hW,e]⟩
theorem KX {w w':World} {g t:Nat} {arr:Array Value} {v1 v2:Value} (hg:w.heap[g]? = some (.cells arr t (0,0))) (h:Hg w g v1 v2 w'):w'.heap[g]? = some (.cells ((arr.setIfInBounds 1 v1).setIfInBounds 2 v2) t (0,0))/\Am.Kept (fun k=>k=g) w w':=by
 obtain ⟨n,m,rfl⟩:=h
 have h1:=heap_setCell_same (w.drewN n) g 1 arr t v1 hg
 have h2:=heap_setCell_same ((w.drewN n).setCell ⟨g,1,none⟩ v1) g 2 _ t v2 h1
 refine ⟨h2,⟨rfl,rfl,rfl,by simp,fun k hk hne =>?_⟩⟩
 exact (heap_setCell_other ((w.drewN n).setCell ⟨g,1,none⟩ v1) (⟨g,2,none⟩:Addr) k v2 fun e=>hne (by rw [e])).trans (heap_setCell_other (w.drewN n) (⟨g,1,none⟩:Addr) k v1 fun e=>hne (by rw [e]))
abbrev eu (c:Cu):Ob := .box [.b (.raw c.1),.b (.val (.int .i64 c.2.1)),.b (.val (.int .u64 c.2.2))]
def bn (m:Int) (c:Cu):Prop:=(∀ b∈c.1,0<=b/\b<256)/\0<=c.2.1/\c.2.1<=m
def nxB (c:Cu):Int:=if c.2.1<c.1.length then c.1.getD c.2.1.toNat 0 else 0
def nxV (c:Cu):Int:=if c.2.1<c.1.length then c.1.getD c.2.1.toNat 0 else nxO c.2.2
def nxC (c:Cu):Cu:=(c.1,c.2.1+1,sdN c.2.2 (nxB c))
theorem bn.mono {m m':Int} {c:Cu} (h:bn m c) (hm:m<=m'):bn m' c:=⟨h.1,h.2.1,by have:=h.2.2;omega⟩
theorem zS {m:Int} {c:Cu} (h:bn m c):bn (m+1) (nxC c):=by
 obtain ⟨h1,h2,h3⟩:=h
 exact ⟨h1,by simp only [nxC];omega,by simp only [nxC];omega⟩
theorem BA {m:Int} {c:Cu} (h:bn m c):0<=nxV c/\nxV c<256:=by
 unfold nxV
 split
 ·rename_i hl
  have hlt:c.2.1.toNat<c.1.length:=by have:=h.2.1;omega
  rw [List.getD_eq_getElem?_getD,List.getElem?_eq_getElem hlt]
  exact h.1 _ (List.getElem_mem hlt)
 ·exact Yn _
theorem VH {c:Cu} (hc:bn 999999999999 c):bP Tryz.prog 164 [.lf (.ptr 0 0)] [true] [eu c] (.int (nxV c)) [eu (nxC c)]:=by
 obtain ⟨bs,p,sd⟩:=c
 obtain ⟨hb,hp0,hp1⟩:=hc
 simp only at hb hp0 hp1
 refine ⟨fun _ _=>by kernel_rfl,fun φ β M w us hH ha =>?_⟩
 obtain ⟨u0,us',rfl⟩:∃ u0 us',us=u0::us':=by
  cases us with
  | nil=>simp [BP] at ha
  | cons a l=>exact ⟨a,l,rfl⟩
 obtain rfl:us'=[]:=by have:=ha.1;simpa using this
 obtain ⟨g,e1,e2⟩:∃ g,φ 0 = .pointer (some ⟨g,0,none⟩)/\u0 = .pointer (some ⟨g,0,none⟩):=ha.2 0 (by simp) (by simp)
 subst e2
 obtain ⟨g',arr,t,e3,hg,⟨hl3,hr⟩,hS⟩:=hH.ob 0 _ rfl
 rw [e1] at e3
 cases e3
 obtain ⟨k,rfl⟩:∃ k:Nat,p=k:=⟨p.toNat,by omega⟩
 obtain ⟨l⟩:=arr
 match l,hl3 with
 | [u,u1,u2],_ =>
 have r0:(B.raw bs).rel M u:=hr 0 (by simp) (by simp)
 obtain rfl:u1 = .int .i64 (k:Int):=hr 1 (by simp) (by simp)
 obtain rfl:u2 = .int .u64 sd:=hr 2 (by simp) (by simp)
 have r0':=r0
 obtain ⟨vs,⟨A,cap,rfl,hcap,hcap2,hRd⟩,hvl,hvr⟩:=r0'
 have c0:w.cell? ⟨g,0,none⟩=some (.slice A bs.length cap):=by rw [mO hg];rfl
 have c1:w.cell? ⟨g,1,none⟩=some (.int .i64 (k:Int)):=by rw [mO hg];rfl
 have c2:w.cell? ⟨g,2,none⟩=some (.int .u64 sd):=by rw [mO hg];rfl
 have key:Calls Tryz.prog 164 #[.pointer (some ⟨g,0,none⟩)] w fun e w'=>e = .returned (.int .i64 (nxV (bs,(k:Int),sd)))/\Hg w g (.int .i64 (k+1)) (.int .u64 (sdN sd (nxB (bs,(k:Int),sd)))) w':=by
  by_cases hlt:k<bs.length
  ·obtain ⟨v,hv1,hv2⟩:=hvr k 0 hlt (by omega)
   rw [Nat.mul_one,Nat.add_zero] at hv1
   obtain ⟨ad,rfl,hcells⟩:=hRd (by rintro rfl;simp at hv1)
   have hvk:=hcells k (List.getElem?_eq_some_iff.1 hv1).1
   rw [(List.getElem?_eq_some_iff.1 hv1).2,hv2] at hvk
   have hbk:=hb _ (List.getElem_mem hlt)
   have e5:bs.getD k 0=bs[k]:=by rw [List.getD_eq_getElem?_getD,List.getElem?_eq_getElem hlt];rfl
   have e6:nxV (bs,(k:Int),sd)=bs.getD k 0:=by simp [nxV,hlt]
   have e7:nxB (bs,(k:Int),sd)=bs.getD k 0:=by simp [nxB,hlt]
   rw [e6,e7]
   exact Ym w g cap ad bs k sd _ c0 c1 c2 (frozen_of_row w g _ _ t hg) (frozen_of_row w g _ _ t hg) hlt (by omega) (hH.mem _ _ hvk) (by rw [e5];exact hbk.1) (by rw [e5];exact hbk.2)
  ·have e6:nxV (bs,(k:Int),sd)=nxO sd:=by simp [nxV,hlt]
   have e7:nxB (bs,(k:Int),sd)=0:=by simp [nxB,hlt]
   rw [e6,e7]
   exact VI w g cap A bs.length k sd c0 c1 c2 (frozen_of_row w g _ _ t hg) (frozen_of_row w g _ _ t hg) (by omega) (by omega) (by omega)
 refine key.mono ?_
 rintro e w' ⟨rfl,hw⟩
 obtain ⟨h1,h2⟩:=KX hg hw
 have hne:∀ ad v,M ad=some v->ad.block≠g:=fun ad v e=>hH.off 0 g (by simp) hS ad v e
 refine ⟨_,φ,β,M,rfl,Mem.le_refl _,fun _ _ e => .inl e,⟨fun ad v e =>?_,fun i o hi =>?_,fun i g' hi=>hH.off i g' (by simpa using hi),fun i j g' hi hj=>hH.inj i j g' (by simpa using hi) (by simpa using hj),fun i g' hi hg'=>Nat.lt_of_lt_of_le (hH.lt i g' (by simpa using hi) hg') h2.size,fun i o hi =>?_⟩,rfl,?_,by simp,fun _ _=>rfl,fun i g' hi hg' => .inr ⟨i,by simpa using hi,hg'⟩,⟨h2.os,h2.tape,h2.output,h2.size,fun k' hk hn=>h2.block k' hk fun e=>hn ⟨0,by simp,by rw [e];exact hS⟩⟩⟩
 ·rw [World.cell?_of_block (h2.block ad.block (DU hH e) (hne ad v e))]
  exact hH.mem ad v e
 ·match i,hi with
  | 0,hi =>
   simp only [List.getElem?_cons_zero,Option.some.injEq] at hi
   subst hi
   refine ⟨g,_,t,e1,h1,⟨by simp,fun j hj hj' =>?_⟩,hS⟩
   match j,hj with
   | 0,_=>exact r0
   | 1,_=>rfl
   | 2,_=>rfl
  | i+1,hi=>simp at hi
 ·match i,hi with
  | 0,hi =>
   simp only [List.getElem?_cons_zero,Option.some.injEq] at hi
   subst hi
   intro y hy
   simp at hy
   rcases hy with rfl | rfl | rfl<;>rfl
  | i+1,hi=>simp at hi
 ·intro y hy
  simp [AV.leaves,TV.leaves] at hy
  subst hy
  rfl
def pkV (n:Int) (c:Cu):Int:=if n<=1 then 0 else if 200<n then (nxV c*256+nxV (nxC c)) % n else nxV c % n
def pkC (n:Int) (c:Cu):Cu:=if n<=1 then c else if 200<n then nxC (nxC c) else nxC c
theorem aV {m n:Int} {c:Cu} (h:bn m c):bn (m+2) (pkC n c):=by
 unfold pkC
 split
 ·exact h.mono (by omega)
 ·split
  ·exact (zS (zS h)).mono (by omega)
  ·exact (zS h).mono (by omega)
theorem fP {m:Int} {c:Cu} (n:Int) (h:bn m c):0<=pkV n c/\(1<=n->pkV n c<n):=by
 have h1:=BA h
 have h2:=BA (zS h)
 unfold pkV
 split
 ·exact ⟨by omega,fun h=>by omega⟩
 ·split
  ·exact ⟨Int.emod_nonneg _ (by omega),fun _=>Int.emod_lt_of_pos _ (by omega)⟩
  ·exact ⟨Int.emod_nonneg _ (by omega),fun _=>Int.emod_lt_of_pos _ (by omega)⟩
theorem iy {n:Int} {c:Cu} (hc:bn 999999999990 c):bP Tryz.prog 113 [.lf (.ptr 0 0),.int n] [true] [eu c] (.int (pkV n c)) [eu (pkC n c)]:=by
 have v1:=BA hc
 have v2:=BA (zS hc)
 refine aZ Tryz.func113 rfl Tryz.ntmps113 aQ (fun _ _=>by kernel_rfl) rfl rfl rfl ?_
 intro M0 w0 S φ0
 rw [Tryz.results113]
 refine ah ?_
 refine aj amQ (fun h =>?_) (fun h =>?_)
 ·refine ah ?_
  have h':=of_decide_eq_true h
  have e1:pkV n c=0:=if_pos h'
  have e2:pkC n c=c:=if_pos h'
  rw [e1,e2]
  (simp only [aC,aH];refine bf [0] rfl ⟨rfl,trivial⟩ rfl rfl rfl rfl rfl ?_;try rfl)
 ·have h':=of_decide_eq_false h
  refine ah ?_
  (refine .inr (.inl (aJ [0] (VH (hc.mono (by omega))) rfl rfl rfl rfl ⟨rfl,trivial⟩ rfl rfl rfl rfl ?_));refine amC ?_)
  refine ah ?_
  refine aj amQ (fun h2 =>?_) (fun h2 =>?_)
  ·refine ah ?_
   (refine .inr (.inl (aJ [0] (VH ((zS hc).mono (by omega))) rfl rfl rfl rfl ⟨rfl,trivial⟩ rfl rfl rfl rfl ?_));refine amC ?_)
   refine ah ?_
   have h2':=of_decide_eq_true h2
   have e1:pkV n c=(nxV c*256+nxV (nxC c)) % n:=(if_neg h').trans (if_pos h2')
   have e2:pkC n c=nxC (nxC c):=(if_neg h').trans (if_pos h2')
   rw [e1,e2]
   (simp only [aC,aH];refine bf [0] rfl ⟨rfl,trivial⟩ rfl rfl rfl rfl rfl ?_;try rfl)
  ·refine ah ?_
   have h2':=of_decide_eq_false h2
   have e1:pkV n c=nxV c % n:=(if_neg h').trans (if_neg h2')
   have e2:pkC n c=nxC c:=(if_neg h').trans (if_neg h2')
   rw [e1,e2]
   (simp only [aC,aH];refine bf [0] rfl ⟨rfl,trivial⟩ rfl rfl rfl rfl rfl ?_;try rfl)
theorem sS {n:Int} {c:Cu} (hc:bn 999999999990 c):bP Tryz.prog 109 [.lf (.ptr 0 0),.int n] [true] [eu c] (.bool (decide (pkV n c=0))) [eu (pkC n c)]:=by
 refine aZ Tryz.func109 rfl Tryz.ntmps109 aQ (fun _ _=>by kernel_rfl) rfl rfl rfl ?_
 intro M0 w0 S φ0
 rw [Tryz.results109]
 refine ah ?_
 (refine .inr (.inl (aJ [0] (iy hc) rfl rfl rfl rfl ⟨rfl,trivial⟩ rfl rfl rfl rfl ?_));refine amC ?_)
 refine ah ?_
 (simp only [aC,aH];refine bf [0] rfl ⟨rfl,trivial⟩ rfl rfl rfl rfl rfl ?_;try rfl)
def amV (xs:List Int) (c:Cu):Int:=xs.getD (pkV xs.length c).toNat 0
def aqC (xs:List Int) (c:Cu):Cu:=pkC xs.length c
theorem dZ {m:Int} {xs:List Int} {c:Cu} (h:bn m c):bn (m+2) (aqC xs c):=aV h
theorem lY {m:Int} {xs:List Int} {c:Cu} (h:bn m c) (hx:0<xs.length):amV xs c∈xs:=by
 obtain ⟨h1,h2⟩:=fP (n:=xs.length) h
 have h3:=h2 (by omega)
 unfold amV
 rw [List.getD_eq_getElem?_getD,List.getElem?_eq_getElem (by omega)]
 exact List.getElem_mem _
theorem dF {xs:List Int} {c:Cu} (hc:bn 999999999990 c) (hx:0<xs.length):bP Tryz.prog 112 [.lf (.ptr 0 0),.sl (.ints xs)] [true] [eu c] (.int (amV xs c)) [eu (aqC xs c)]:=by
 obtain ⟨h1,h2⟩:=fP (n:=xs.length) hc
 have h3:=h2 (by omega)
 refine aZ Tryz.func112 rfl Tryz.ntmps112 aQ (fun _ _=>by kernel_rfl) rfl rfl rfl ?_
 intro M0 w0 S φ0
 rw [Tryz.results112]
 refine ah ?_
 (refine .inr (.inl (aJ [0] (iy hc) rfl rfl rfl rfl ⟨rfl,trivial⟩ rfl rfl rfl rfl ?_));refine amC ?_)
 refine ah ?_
 (simp only [aC,aH];refine bf [0] rfl ⟨rfl,trivial⟩ rfl rfl rfl rfl rfl ?_;try rfl)
end Go.Proofs.YtnblieajjclipaaGreat
