/- Whether the algorithm can keep the sums of gains bounded: the reference's function. Conditions: games that are whole, ratios in bounds. -/
import Derived.Test.YtnblieajjclipaaGreatRA5
import Derived.Test.YtnblieajjclipaaGreatZArF
set_option linter.all false
namespace Go.Proofs.YtnblieajjclipaaGreat
open Go Go.RowKit Am
theorem P6 {m s:List (List Int)} {t:dD} {g:GmT} (hx:GmX m s t g) (b:Bool) {num den:Int} (hn:0<=num/\num<=5000000000) (hd:0<=den/\den<=5000000000) {B:Bool} (hBi:B=true↔∃ C,CrP g.list.length (rqR s) (gmE g num den) C):Does Tryz.prog 86 [gA g b,frA (den,num)] (.imm (.bool B)):=by
 have hf:=hx.full
 have hB:=xY hf hn hd
 have hle:=hf.le
 have hpos:=hf.pos
 have hml:=Pv g.list.length s.length true
 have hok:=Dp hB (List.replicate g.list.length (List.replicate s.length true))
 have hC0:SpC (gmS s g num den (List.replicate g.list.length (List.replicate s.length true))) (fun _ _ => -1):=⟨fun i r hi hr=>by omega,fun i r hi hr=>by omega⟩
 obtain ⟨V0,hV0⟩:=GR (g:=gmS s g num den (List.replicate g.list.length (List.replicate s.length true))) (give:=gv) (ch:=fun _ _ => -1) (fun _ _ _ _=>rfl) (by decide)
 obtain ⟨ks,W,hX⟩:=WZ hok (by omega) (by decide) _ _ V0 (Nat.le_refl _) hC0 hV0
 have hend:=hX.end (a:=(g.list.length:Int)+1) (gain:=fun i r k=>aW num den (((g.ch.getD i []).getD r []).getD k [])) hok (by omega) hC0 (fun i r k _ _ _=>rfl)
 have hend:ql g.list.length (fun i r=>r<s.length/\((List.replicate g.list.length (List.replicate s.length true)).getD i []).getD r false=true) (gmE g num den) ((g.list.length:Int)+1) gv (g.list.length*50000000000000) W:=hend
 have hend2:ql g.list.length (rqR s) (gmE g num den) ((g.list.length:Int)+1) gv (g.list.length*50000000000000) W:=by
  refine ⟨hend.pos,fun i r hi hr=>hend.alg i r hi ⟨hr,?_⟩,fun i hi h0 =>?_,hend.gap⟩
  ·simp [hi,show r<s.length from hr]
  ·obtain ⟨r,⟨hr,_⟩,h⟩:=hend.adv i hi h0
   exact ⟨r,hr,h⟩
 have hgv:gv=100000000000000000:=rfl
 have hM:(g.list.length:Int)*50000000000000<=3000000000000000:=by omega
 have key:decide (W 0<50000000000000000)=B:=by
  cases hBv:B
  ·refine decide_eq_false fun hlt =>?_
   have hno:¬ ∃ C,CrP g.list.length (rqR s) (gmE g num den) C:=fun h=>by rw [hBi.2 h] at hBv;cases hBv
   apply hno
   have h0:W 0<=g.list.length*50000000000000:=by
    rcases hend2.gap 0 hpos with h | h<;>omega
   have hend3:ql g.list.length (rqR s) (gmE g num den) ((g.list.length+1:Nat):Int) gv (g.list.length*50000000000000) W:=by rw [Int.natCast_add];exact hend2
   obtain ⟨C,hC⟩:=hend3.MO hB.eok (by omega) (by rw [Int.natCast_add];omega) (by omega)
   refine mimic hx hn.1 hd.1 (fun i=>i<g.list.length/\W i<=g.list.length*50000000000000) C ⟨0,hpos,hpos,h0⟩ fun j hj hP=>⟨(hC j hj hP.2).1,fun r hr =>?_⟩
   obtain ⟨t,w,h1,h2,h3⟩:=(hC j hj hP.2).2 r hr
   exact ⟨t,w,h1,⟨(hB.eok j r t w hj hr h1).1,h2⟩,h3⟩
  ·refine decide_eq_true ?_
   obtain ⟨C,hC⟩:=hBi.1 hBv
   have h1:=Int.mul_le_mul (show (g.list.length:Int)+1<=61 by omega) (show (g.list.length:Int)*595000000000<=60*595000000000 by omega) (by omega) (by omega)
   have:=hend2.small hB.eok (by omega) (by omega) (by omega) hC 0 hpos
   omega
 rw [← key]
 have h1:Does Tryz.prog 89 [gA g b] (.imm (.sl (.bbo (List.replicate g.list.length (List.replicate s.length true))))):=nG (KC hf b)
 have h2:Does Tryz.prog 149 [gA g b,frA (den,num),.sl (.bbo (List.replicate g.list.length (List.replicate s.length true)))] (.imm (.sl (.ints ((List.range g.list.length).map W)))):=nG (EO hf b hn hd hml hX)
 have hWl:((List.range g.list.length).map W).length=g.list.length:=by simp
 have hW0:((List.range g.list.length).map W).getD 0 0=W 0:=eP hpos
 refine aF Tryz.func86 rfl Tryz.ntmps86 aQ (fun _ _=>by kernel_rfl) rfl (Nat.le_of_ble_eq_true rfl) ?_
 intro M0 w0
 rw [Tryz.results86]
 refine ah ?_
 ((try refine Or.inl ?_);refine ⟨_,(h1),amF,?_⟩;refine amC ?_)
 ((try refine Or.inl ?_);refine ⟨_,(h2),amF,?_⟩;refine amC ?_)
 refine ah ?_
 refine bJ ?_
 rw [← hW0]
end Go.Proofs.YtnblieajjclipaaGreat
