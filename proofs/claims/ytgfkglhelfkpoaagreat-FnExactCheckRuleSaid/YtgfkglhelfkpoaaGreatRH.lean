/- Texts put together: WField2, WSerS, WSerS2. -/
import Derived.Test.YtgfkglhelfkpoaaGreatRB
import Derived.Test.YtgfkglhelfkpoaaGreatRG
import Derived.Test.YtgfkglhelfkpoaaGreatRD
import Derived.Deep.RegionLaw
set_option maxRecDepth 100000
set_option maxHeartbeats 1000000
open Go.Lib (hid)
namespace Go.Proofs.YtgfkglhelfkpoaaGreat
section
open Go.RowKit Plain
theorem residueS_any (a:Int) (w:World):Calls Tryz.prog 204 #[.int .i64 a] w fun e w'=>e=.returned (.int .i64 (rs a))∧w=w':=by
 obtain ⟨h1,h2,h3⟩:=tmod_bd a
 have H4:Hid (a.tmod 1000003<0→a.tmod 1000003+1000003=rs a):=fun h=>by omega
 have H5:Hid (0≤a.tmod 1000003→a.tmod 1000003=rs a):=fun h=>by omega
 clear h3
 go_enter Tryz.func204,Tryz.ntmps204
 go_wp2
 all_goals
  go_ret
  first
   | exact ⟨ret_int (H4.out (by omega)),rfl⟩
   | exact ⟨ret_int (H5.out (by omega)),rfl⟩
theorem plusS_any (a b:Int) (w:World):Calls Tryz.prog 127 #[.int .i64 a,.int .i64 b] w fun e w'=>e=.returned (.int .i64 (pl a b))∧w=w':=by
 have ha:=rs_bd a
 have hb:=rs_bd b
 have H:=hid (pl_rs a b)
 go_enter Tryz.func127,Tryz.ntmps127
 go_wp2_with fail
 refine (residueS_any a _).mono ?_;rintro e w' ⟨rfl,rfl⟩
 go_wp2_with fail
 refine (residueS_any b _).mono ?_;rintro e w' ⟨rfl,rfl⟩
 generalize rs a=x at *
 generalize rs b=y at *
 go_wp2
 go_ret
 exact ⟨ret_int H.out,rfl⟩
theorem timesS_any (a b:Int) (w:World):Calls Tryz.prog 125 #[.int .i64 a,.int .i64 b] w fun e w'=>e=.returned (.int .i64 (tm a b))∧w=w':=by
 have ha:=rs_bd a
 have hb:=rs_bd b
 have hm:=mul_bd ha.1 ha.2 hb.1 hb.2
 have H:=hid (tm_rs a b)
 go_enter Tryz.func125,Tryz.ntmps125
 go_wp2_with fail
 refine (residueS_any a _).mono ?_;rintro e w' ⟨rfl,rfl⟩
 go_wp2_with fail
 refine (residueS_any b _).mono ?_;rintro e w' ⟨rfl,rfl⟩
 generalize rs a=x at *
 generalize rs b=y at *
 go_wp2
 go_ret
 exact ⟨ret_int H.out,rfl⟩
theorem powerS_any (a:Int) (n:Nat) (w:World) (hn:n≤4611686018427387904):Calls Tryz.prog 126 #[.int .i64 a,.int .i64 n] w fun e w'=>e=.returned (.int .i64 (pw a n))∧w=w':=by
 have ha:=rs_bd a
 have HP:=hid (pw_rs a n)
 go_enter Tryz.func126,Tryz.ntmps126
 go_wp2_with fail
 refine (residueS_any a _).mono ?_;rintro e w' ⟨rfl,rfl⟩
 generalize rs a=x at *
 go_wp2_with fail
 go_loop [1,5,6] (fun nn o b=>∃ (k:Nat) (oo bb:Int),k≤n∧nn=.int .i64 (k:Int)∧o=.int .i64 oo∧b=.int .i64 bb∧0≤oo∧oo≤1000002∧0≤bb∧bb≤1000002∧Hid (pw x n=tm oo (pw bb k))) (fun nn _ _=>(intOf nn).toNat)
 case atStart=>exact ⟨n,1,x,by omega,rfl,rfl,rfl,by omega,by omega,ha.1,ha.2,by show _=_;unfold tm pw;rw [Int.one_mul,Int.emod_emod]⟩
 case round=>
  obtain ⟨k,oo,bb,hk,rfl,rfl,rfl,o0,o1,b0,b1,HE⟩:=hrel
  have m1:=mul_bd o0 o1 b0 b1
  have m2:=mul_bd b0 b1 b0 b1
  by_cases hlt:0<k
  ·by_cases h2:k % 2=1
   ·have hd:((k:Int) % 2==1)=true:=by simp;omega
    have HS:=hid (pw_half_odd (o:=oo) (b:=bb) h2)
    go_wp2_with fail
    refine (timesS_any oo bb _).mono ?_;rintro e w' ⟨rfl,rfl⟩
    go_wp2_with fail
    refine (timesS_any bb bb _).mono ?_;rintro e w' ⟨rfl,rfl⟩
    go_wp2
    go_round
    case rel=>exact ⟨k / 2,oo*bb % 1000003,bb*bb % 1000003,by omega,by go_num,rfl,rfl,by omega,by omega,by omega,by omega,by show _=_;rw [HE.out,HS.out]⟩
    case measure=>simp [intOf];omega
   ·have hd:((k:Int) % 2==1)=false:=by simp;omega
    have HS:=hid (pw_half_even (o:=oo) (b:=bb) (show k % 2=0 by omega))
    go_wp2_with fail
    refine (timesS_any bb bb _).mono ?_;rintro e w' ⟨rfl,rfl⟩
    go_wp2
    go_round
    case rel=>exact ⟨k / 2,oo,bb*bb % 1000003,by omega,by go_num,rfl,rfl,by omega,by omega,by omega,by omega,by show _=_;rw [HE.out,HS.out]⟩
    case measure=>simp [intOf];omega
  ·obtain rfl:k=0:=by omega
   have HF:=hid (tm_one o0 o1 bb)
   go_wp2
   go_ret
   exact ⟨ret_int (by rw [←HP.out,HE.out,HF.out]),rfl⟩
theorem invS_any (a:Int) (w:World):Calls Tryz.prog 224 #[.int .i64 a] w fun e w'=>e=.returned (.int .i64 (iv a))∧w=w':=by
 go_enter Tryz.func224,Tryz.ntmps224
 go_wp2_with fail
 refine (powerS_any a 1000001 _ (by omega)).mono ?_;rintro e w' ⟨rfl,rfl⟩
 go_wp2
 go_ret
 exact ⟨rfl,rfl⟩
end
section
open Go.RowKit Plain
def IntsT (w:World) (B:Nat) (A:Option Addr) (zs:List Int):Prop:=
 0<zs.length→∃ b o,A=some ⟨b,o,none⟩∧B≤b∧b<w.heap.size∧Typed w b 2∧∀ j x,zs[j]? = some x→w.cell? ⟨b,o+j,none⟩=some (.int .i64 x)∧w.frozen? ⟨b,o+j,none⟩=false
theorem IntsT.m {w:World} {B:Nat} {A:Option Addr} {zs:List Int} (h:IntsT w B A zs):IntsM w B A zs:=fun hn=>by
 obtain ⟨b,o,e,h1,h2,_,h3⟩:=h hn
 exact ⟨b,o,e,h1,h2,h3⟩
theorem IntsT.ints {w:World} {B:Nat} {A:Option Addr} {zs:List Int} (h:IntsT w B A zs):Ints w A zs:=h.m.ints
theorem Cells.intsT {w:World} {g B:Nat} {zs:List Int} (h:Cells w g 2 (zs.map (Value.int .i64))) (hB:B≤g):IntsT w B (some ⟨g,0,none⟩) zs:=
 fun _=>⟨g,0,rfl,hB,h.lt,h.typed,fun j x hx=>⟨by rw [h.cell,Nat.zero_add];simp [hx],h.frozen _⟩⟩
def SPost (zs:List Int) (w:World) (e:Ending) (w':World):Prop:=
 ∃ A cp,e=.returned (.slice A zs.length cp)∧IntsT w' w.heap.size A zs∧Below w.heap.size w w'
theorem IntRow.alloc {w:World} {base:Nat} {v:Value} {l:List Int} (h:IntRow w base v l) (o:Obj):IntRow (w.alloc o) base v l:=World.ownsRow.alloc h o
theorem mk_succ (k:Nat) (F:Nat→Int):mk (k+1) F=mk k F++[F k]:=by unfold mk;rw [List.range_succ,List.map_append];rfl
theorem rowNext {w wr W w2:World} {k cp:Nat} {Av:Option Addr} {F:Nat→Int} {x:Int} {v2:Value} (hr:IntRow wr w.heap.size (.slice Av k cp) (mk k F)) (hb:Below w.heap.size w wr) (hW:Below wr.heap.size wr W) (hx:x=F k)
  (hown:w2.ownsRow w.heap.size 2 1 v2 (k+1) ((mk k F).map (Value.int .i64)++[.int .i64 x])) (hg:W.grownBy w2 (Value.slice Av k cp).ownBlock) :
  (∃ A2 c2,v2=.slice A2 (k+1) c2)∧IntRow w2 w.heap.size v2 (mk (k+1) F)∧Below w.heap.size w w2:=by
 have h1:IntRow w2 w.heap.size v2 (mk k F++[x]):=IntRow.push (mk_length _ _).symm hown
 rw [hx,←mk_succ] at h1
 obtain ⟨A2,c2,hv⟩:=h1.form
 have hbW:=bnext hb hW
 exact ⟨⟨A2,c2,by rw [hv,mk_length]⟩,h1,hbW.grown hg hbW.size (fun q hq=>(hr.lt hq).1)⟩
theorem rowStart (w:World) (F:Nat→Int):IntRow (w.alloc (.cells #[] 2)) w.heap.size (.slice (some ⟨w.heap.size,0,none⟩) 0 0) (mk 0 F):=
 World.ownsRow_lit w #[] 0 (Nat.le_refl _) (by unfold maxLen;omega) (by rfl)
theorem constS_any (x:Int) (n:Nat) (w:World) (h0:0<n) (hn:n≤1000000) :
  Calls Tryz.prog 59 #[.int .i64 x,.int .i64 n] w (SPost ((ops n).num x) w):=by
 have hmk:=run_make_row' (P:=Tryz.prog) 28 2 (.int .i64 0) 8 Tryz.underlying28 Tryz.infoI rfl .i64 .i64 n (by omega) (by omega)
 rw [madeCells_one,rowF_zero,upTo_zero (f:=fun k=>if k=0 then x else 0)] at hmk
 have h1:(0:Int)<(n:Int):=by omega
 have HC:=hid (Cells.new w 2 (rowF n (upTo (fun k=>if k=0 then x else 0) 0 0)))
 have g3:=cell_row HC.out h0
 have z3:=HC.out.frozen 0
 have HN:Hid (Cells (w.alloc (.cells ((rowF n (upTo (fun k=>if k=0 then x else 0) 0 0)).set 0 (.int .i64 x)).toArray 2)) w.heap.size 2 (((ops n).num x).map (Value.int .i64))):=by
  have e:(rowF n (upTo (fun k=>if k=0 then x else 0) 0 0)).set 0 (.int .i64 x)=((ops n).num x).map (Value.int .i64):=by
   rw [upTo_set]
   unfold ops
   show _=(mk n _).map _
   unfold rowF
   rw [mk_congr (g:=fun k=>if k=0 then x else 0)]
   intro k _
   unfold upTo
   by_cases hk:k=0
   ·subst hk;simp
   ·simp [hk]
  rw [←e];exact Cells.new w _ _
 go_enter Tryz.func59,Tryz.ntmps59
 go_wp2
 go_ret
 refine ⟨some ⟨w.heap.size,0,none⟩,n, ?_,HN.out.intsT (Nat.le_refl _),by go_grown⟩
 have e:((ops n).num x).length=n:=by simp only [ops,mk_length]
 rw [e];rfl
end
section
open Go.RowKit Plain
end
end Go.Proofs.YtgfkglhelfkpoaaGreat
