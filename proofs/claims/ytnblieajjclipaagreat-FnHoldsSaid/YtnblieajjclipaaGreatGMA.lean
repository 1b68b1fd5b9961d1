/- Sums and greatest numbers, by the program's and the reference's functions. Conditions: no partial sum leaves the range of an int. -/
import Derived.Test.YtnblieajjclipaaGreatZOA
set_option linter.all false
namespace Go.Proofs.YtnblieajjclipaaGreat
open Go.RowKit
theorem wS {xs:List Int} {B:Int} (h:∀ x∈xs,0<=x/\x<=B):0<=xs.sum/\xs.sum<=xs.length*B:=by
 induction xs with
 | nil=>simp
 | cons x xs ih =>
  have h1:=h x (by simp)
  have h2:=ih fun y hy=>h y (by simp [hy])
  simp only [List.sum_cons,List.length_cons,Int.natCast_add,Int.add_mul]
  omega
def OT (xs:List Int):Prop:=∀ k,k<=xs.length -> -9223372036854775808<=(xs.take k).sum/\(xs.take k).sum<=9223372036854775807
theorem OD {xs:List Int} {B:Int} (h:∀ x∈xs,0<=x/\x<=B) (hB:xs.length*B<=9223372036854775807) (hB0:0<=B):OT xs:=fun k hk=>by
 have h1:=wS (xs:=xs.take k) (B:=B) fun x hx=>h x (List.mem_of_mem_take hx)
 have h2:((xs.take k).length:Int)*B<=xs.length*B:=Int.mul_le_mul_of_nonneg_right (by simp;omega) hB0
 omega
def greatest (a:Int) (xs:List Int):Int:=xs.foldl max a
theorem E8 (a:Int) (xs:List Int) (k:Nat) (h:k<xs.length):greatest a (xs.take (k+1))=max (greatest a (xs.take k)) xs[k]:=by
 unfold greatest
 rw [List.take_succ_eq_append_getElem h,List.foldl_append]
 rfl
theorem I9 (w:World) (u:Value) (x:Int) (xs:List Int) (hx:SlI w u (x::xs)) :
  Calls Tryz.prog 102 #[u] w fun e w'=>e = .returned (.int .i64 (greatest x xs))/\Qt w w':=by
 have hlen:=hx.len
 obtain ⟨A,c,rfl,hc1,hc2,hcell⟩:=hx.view
 obtain ⟨ad,rfl,hc0⟩:=hcell 0 (by simp)
 have hl:(1:Int)<=((x::xs).length:Int):=by simp;omega
 obtain ⟨n,hn⟩:∃ n,n=(x::xs).length:=⟨_,rfl⟩
 have hl2:n=xs.length+1:=by rw [hn];rfl
 rw [← hn] at hl hlen hc1
 have hc0':w.cell? ad=some (.int .i64 x):=hc0
 have hcell':∀ k (h:k<xs.length),w.cell? (ad.add (k+1))=some (.int .i64 xs[k]):=fun k h=>by
  obtain ⟨ad',e,hc⟩:=hcell (k+1) (by simp;omega)
  cases e
  simpa using hc
 have HL:=hide hl2
 rw [← hn]
 clear hc0 hcell hx hl2 hn
 go_enter Tryz.func102,Tryz.ntmps102
 go_wp2
 go_loopw [3,4] (fun t i wr=>∃ k:Nat,k<=xs.length/\i = .int .i64 (k+1:Nat)/\t = .int .i64 (greatest x (xs.take k))/\Qt w wr) (fun _ i _=>n-(intOf i).toNat)
 case atStart=>exact ⟨0,Nat.zero_le _,rfl,rfl,Qt.refl _⟩
 case round =>
  obtain ⟨k,hk,rfl,rfl,m,rfl⟩:=hrel
  have hnk:=HL.out
  by_cases hlt:k<xs.length
  ·have hc:w.cell? ⟨ad.block,ad.off+(k+1),none⟩=some (.int .i64 xs[k]):=by simpa [Addr.add] using hcell' k hlt
   have hlt2:((k+1:Nat):Int)<n:=by omega
   have H3:=hide (E8 x xs k hlt)
   clear hcell' hnk
   go_wp2
   go_roundw
   case rel=>exact ⟨k+1,by omega,by go_num,by rw [H3.out];congr 1;rw [Int.max_def];split<;>split<;>omega,by first | exact ⟨_,rfl⟩ | exact ⟨_,World.drewN_drewN _ _ _⟩⟩
   case measure=>simp [intOf];omega
  ·have hge:¬ ((k+1:Nat):Int)<n:=by omega
   clear hnk
   go_wp2
   go_ret
   obtain rfl:k=xs.length:=by omega
   exact ⟨by rw [List.take_of_length_le (Nat.le_refl _)];rfl,by first | exact ⟨_,rfl⟩ | exact ⟨_,World.drewN_drewN _ _ _⟩⟩
theorem AB (lo hi:Int) (xs:List Int):(!xs.any fun x => !rng x lo hi)=allIn lo hi xs:=by
 unfold allIn
 rw [List.any_eq_not_all_not]
 simp
theorem rowAt {w:World} {ad:Addr} {m:List (List Int)} (hcell:∀ j (hj:j<m.length),∃ ad' v,some ad=some ad'/\w.cell? (ad'.add j)=some v/\SlI w v m[j]) (hsq:sqB m=true) {x:Nat} (hx:x<m.length) :
  ∃ ax cx,w.cell? (ad.add x)=some (.slice (some ax) m.length cx)/\m.length<=cx/\∀ y,y<m.length->w.cell? (ax.add y)=some (.int .i64 (at2 m x y)):=by
 obtain ⟨ad',v,e,hc,hv⟩:=hcell x hx
 cases e
 obtain ⟨A,c,rfl,h1,h2,h3⟩:=SlI.view hv
 have hl:=BM.1 hsq _ (List.getElem_mem hx)
 obtain ⟨ax,rfl,_⟩:=h3 0 (by omega)
 refine ⟨ax,c,by rw [hc,hl],by omega,fun y hy =>?_⟩
 obtain ⟨ax',e,hcy⟩:=h3 y (by omega)
 cases e
 rw [hcy,MG hx (by omega)]
theorem CX:Enters Tryz.prog 186:=fun _ _=>by kernel_rfl
theorem Ih (w:World) (a:Addr) (v:Value) (r:List Int) (n:Nat) (hn:n<=9223372036854775807) (hc:w.cell? a=some (.int .i64 n)) (hv:SlI w v r) :
  Calls Tryz.prog 186 (#[v]++#[.pointer (some a)]) w fun e w'=>e = .returned (.bool (!(r.length == n)))/\Below w.heap.size w w':=by
 have hlv:=hv.len
 obtain ⟨A,c,rfl,_,_,_⟩:=hv.view
 simp only [List.push_toArray,List.append_toArray,List.cons_append,List.nil_append]
 by_cases h:r.length=n
 ·have hb:((r.length:Int) != (n:Int))=false:=by simp [h]
  have HP:Hid ((!(r.length == n))=false):=by show (!(r.length == n))=false;simp [h]
  clear h hv
  rw [HP.out]
  go_enter Tryz.func186,Tryz.ntmps186
  go_wp2
  go_ret
  exact ⟨by simp [hb],Below.refl _ _⟩
 ·have hb:((r.length:Int) != (n:Int))=true:=by simp;omega
  have HP:Hid ((!(r.length == n))=true):=by show (!(r.length == n))=true;simp [h]
  clear h hv
  rw [HP.out]
  go_enter Tryz.func186,Tryz.ntmps186
  go_wp2
  go_ret
  exact ⟨by simp [hb],Below.refl _ _⟩
def dY (m:List (List Int)):Bool:=rng m.length 1 6 && sqB m && yX m
set_option maxRecDepth 100000 in
set_option maxHeartbeats 4000000 in
theorem Kw (w:World) (u:Value) (m:List (List Int)) (hx:jr w u m) :
  Calls Tryz.prog 169 #[.agg #[u],.bool false] w fun e w'=>e = .returned (.bool (dY m))/\Below w.heap.size w w':=by
 have hlen:=SlO.len hx
 obtain ⟨A,c,e0,hc1,hc2,hcell⟩:=SlO.view hx
 have hb0:Below w.heap.size w ((w.alloc (.cells #[u] 165)).alloc (.cells #[.int .i64 m.length] 3)):=by repeat (first | exact Below.refl _ _ | apply Below.drew | refine Below.setCell ?_ (by first | (simp;done) | (simp;omega)) _ | refine Below.alloc ?_ (by first | (simp;done) | (simp;omega)) _)
 have HC:=hide (mZ ((w.alloc (.cells #[u] 165)).alloc (.cells #[.int .i64 m.length] 3)) u m 186 #[.pointer (some ⟨w.heap.size+1,0,none⟩)] (fun r => !(r.length == m.length)) CX (jr.below hx hb0)
  (fun W hW j hj v hv=>Ih W _ v _ m.length hlen (aY hW (by simp [go_sem])) (SlI.below hv hW)))
 have HSQ:Hid ((m.any fun r => !(r.length == m.length)) = !sqB m):=by
  show _ = !sqB m
  unfold sqB
  rw [List.any_eq_not_all_not]
  simp
 rw [HSQ.out] at HC
 subst e0
 cases hr:rng m.length 1 6
 ·have HR:=hide hr
  have HP:Hid (dY m=false):=by show dY m=false;unfold dY;rw [hr];rfl
  clear hx hr hcell
  rw [HP.out]
  go_enter Tryz.func169,Tryz.ntmps169
  go_wp2_with (go_at_call 128;refine (eX _ _ _ _).mono ?_;rintro e w' ⟨rfl,rfl⟩;rw [HR.out];dsimp only)
  go_ret
  exact ⟨rfl,hb0⟩
 ·cases hs:sqB m
  ·have HR:=hide hr
   have HS:=hide hs
   have HP:Hid (dY m=false):=by show dY m=false;unfold dY;rw [hr,hs];rfl
   clear hx hr hs hcell
   rw [HP.out]
   go_enter Tryz.func169,Tryz.ntmps169
   go_wp2_with (first
    | (go_at_call 128;refine (eX _ _ _ _).mono ?_;rintro e w' ⟨rfl,rfl⟩;rw [HR.out];dsimp only)
    | ((with_reducible refine HC.out.mono ?_);rintro e w2 ⟨rfl,hb2⟩;rw [HS.out];dsimp only))
   go_ret
   exact ⟨rfl,hb0.trans (hb2.mono (by simp;omega))⟩
  ·have hm0:0<m.length:=by have:=gK.1 hr;omega
   have HR:=hide hr
   have HS:=hide hs
   have HP:Hid (dY m=yX m):=by show dY m=yX m;unfold dY;rw [hr,hs];rfl
   obtain ⟨ad,_,rfl,_,_⟩:=hcell 0 hm0
   have HROW:=hide fun x (hx:x<m.length)=>rowAt hcell hs hx
   obtain ⟨n,hn⟩:∃ n,m.length=n:=⟨_,rfl⟩
   have hn6:n<=6:=by have:=gK.1 hr;omega
   rw [hn] at HR HC HROW hm0 hc1 hb0
   have HN:=hide hn
   clear hx hr hs hcell hlen
   rw [HP.out,hn]
   clear hn
   go_enter Tryz.func169,Tryz.ntmps169
   go_wp2_with fail
   refine (eX _ _ _ _).mono ?_
   rintro e w' ⟨rfl,rfl⟩
   rw [HR.out]
   dsimp only
   go_wp2_with fail
   refine HC.out.mono ?_
   rintro e w2 ⟨rfl,hb2⟩
   rw [HS.out]
   have B2:Below w.heap.size w w2:=hb0.trans (hb2.mono (by simp;omega))
   have hbox:w2.cell? ⟨w.heap.size,0,none⟩=some (.slice (some ad) n c):=aY hb2 (by simp [go_sem])
   have hnb:w2.cell? ⟨w.heap.size+1,0,none⟩=some (.int .i64 n):=aY hb2 (by simp [go_sem])
   dsimp only
   go_wp2_with fail
   go_loop [22] (fun i=>∃ k:Nat,k<=n/\i = .int .i64 k/\Hid (∀ x,x<k->kU n (fU m x)=true)) (fun i=>n-(intOf i).toNat)
   case atStart=>exact ⟨0,Nat.zero_le _,rfl,fun x h=>by omega⟩
   case round =>
    obtain ⟨k,hk,rfl,hG⟩:=hrel
    by_cases hlt:k<n
    ·obtain ⟨ax,cx,f1,f2,f3⟩:=HROW.out k hlt
     have f1':=(B2.cell (block_lt f1)).trans f1
     have HF3:=hide f3
     clear f1 f2 f3
     go_wp2
     go_loop [31] (fun i=>∃ j:Nat,j<=n/\i = .int .i64 j/\Hid (∀ y,y<j->fU m k y=true)) (fun i=>n-(intOf i).toNat)
     case atStart=>exact ⟨0,Nat.zero_le _,rfl,fun y h=>by omega⟩
     case round =>
      obtain ⟨j,hj,rfl,hJ⟩:=hrel
      by_cases hlj:j<n
      ·obtain ⟨ay,cy,g1,g2,g3⟩:=HROW.out j hlj
       have g1':=(B2.cell (block_lt g1)).trans g1
       have c1:=HF3.out j hlj
       have c2:=g3 k hlt
       have c1':=(B2.cell (block_lt c1)).trans c1
       have c2':=(B2.cell (block_lt c2)).trans c2
       obtain ⟨d,hd⟩:∃ d,at2 m k j=d:=⟨_,rfl⟩
       obtain ⟨d',hd'⟩:∃ d',at2 m j k=d':=⟨_,rfl⟩
       rw [hd] at c1'
       rw [hd'] at c2'
       have HOK:Hid (fU m k j=decide (d=d'/\(k=j->d=0)/\(k≠j->1<=d/\d<=99))):=by show fU m k j=_;unfold fU;rw [hd,hd']
       have HBAD:Hid (¬ (d=d'/\(k=j->d=0)/\(k≠j->1<=d/\d<=99))->yX m=false):=fun h=>QT (by rw [HN.out];exact hlt) (by rw [HN.out];exact hlj) (by rw [HOK.out];exact decide_eq_false h)
       clear g1 g2 g3 c1 c2 hd hd'
       by_cases q2:d=d'
       ·have r2:(d != d')=false:=by simp [q2]
        have Q2:=hide q2
        clear q2
        by_cases q3:99<d
        ·by_cases q1:k=j
         ·have HB:=HBAD.out fun h=>by have:=h.2.1 q1;omega
          have HB':=hide HB
          have r1:((k:Int) == (j:Int))=true:=by simp [q1]
          have r0:(d != 0)=true:=by simp;omega
          clear HB q1
          go_wp2
          go_ret
          exact ⟨by rw [HB'.out];rfl,B2⟩
         ·have HB:=HBAD.out fun h=>by have:=h.2.2 q1;omega
          have HB':=hide HB
          have r1:((k:Int) == (j:Int))=false:=by simp;omega
          clear HB q1
          go_wp2
          go_ret
          exact ⟨by rw [HB'.out];rfl,B2⟩
        ·have q3':d<=99:=by omega
         by_cases q1:k=j
         ·have r1:((k:Int) == (j:Int))=true:=by simp [q1]
          have r1':((k:Int) != (j:Int))=false:=by simp [q1]
          by_cases q4:d=0
          ·have r0:(d != 0)=false:=by simp [q4]
           have HK:Hid (fU m k j=true):=by
            show fU m k j=true
            rw [HOK.out]
            exact decide_eq_true ⟨Q2.out,fun _=>q4,fun h=>absurd q1 h⟩
           clear q1 q4
           go_wp2
           go_round
           case rel=>exact ⟨j+1,by omega,by go_num,dA hJ.out HK.out⟩
           case measure=>simp [intOf];omega
          ·have r0:(d != 0)=true:=by simp [q4]
           have HB':=hide (HBAD.out fun h=>q4 (h.2.1 q1))
           clear q1
           go_wp2
           go_ret
           exact ⟨by rw [HB'.out];rfl,B2⟩
         ·have r1:((k:Int) == (j:Int))=false:=by simp;omega
          have r1':((k:Int) != (j:Int))=true:=by simp;omega
          by_cases q4:d<1
          ·have HB':=hide (HBAD.out fun h=>by have:=h.2.2 q1;omega)
           clear q1
           go_wp2
           go_ret
           exact ⟨by rw [HB'.out];rfl,B2⟩
          ·have HK:Hid (fU m k j=true):=by
            show fU m k j=true
            rw [HOK.out]
            exact decide_eq_true ⟨Q2.out,fun h=>absurd h q1,fun _=>by omega⟩
           have q4':1<=d:=by omega
           have r4:decide (d<1)=false:=by simp;omega
           clear q1
           go_wp2
           go_round
           case rel=>exact ⟨j+1,by omega,by go_num,dA hJ.out HK.out⟩
           case measure=>simp [intOf];omega
       ·have r2:(d != d')=true:=by simp [q2]
        have HB':=hide (HBAD.out fun h=>q2 h.1)
        by_cases q1:k=j
        ·have r1:((k:Int) == (j:Int))=true:=by simp [q1]
         clear q1
         by_cases q4:d=0
         ·have r0:(d != 0)=false:=by simp [q4]
          clear q4
          go_wp2
          go_ret
          exact ⟨by rw [HB'.out];rfl,B2⟩
         ·have r0:(d != 0)=true:=by simp [q4]
          go_wp2
          go_ret
          exact ⟨by rw [HB'.out];rfl,B2⟩
        ·have r1:((k:Int) == (j:Int))=false:=by simp;omega
         clear q1
         go_wp2
         go_ret
         exact ⟨by rw [HB'.out];rfl,B2⟩
      ·go_wp2
       go_round
       case rel =>
        obtain rfl:j=n:=by omega
        exact ⟨_,_,_,_,_,⟨k+1,by omega,by go_num,dA hG.out (bF.2 hJ.out)⟩,rfl,rfl,rfl,rfl,rfl⟩
       case measure=>simp [intOf];omega
    ·go_wp2
     go_ret
     obtain rfl:k=n:=by omega
     have e:yX m=true:=by
      unfold yX
      rw [HN.out]
      exact bF.2 hG.out
     exact ⟨by rw [e];rfl,B2⟩
end Go.Proofs.YtnblieajjclipaaGreat
