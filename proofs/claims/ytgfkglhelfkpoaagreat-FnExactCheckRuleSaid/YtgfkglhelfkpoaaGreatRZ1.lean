/- Texts put together: WSizeS. -/
import Derived.Test.YtgfkglhelfkpoaaGreatRG
set_option maxRecDepth 100000
set_option maxHeartbeats 1000000
open Go.Lib (hid)
namespace Go.Proofs.YtgfkglhelfkpoaaGreat
section
open Go.RowKit Plain
def SizeSC (ks:Es):Prop:=∀ (k n p c:Int) (b o B:Nat) (w:World),ElAt w B k n p c ks b o→B≤w.heap.size→ks.size≤1048576 →
 Calls Tryz.prog 194 #[ptr b o] w fun e w'=>e=.returned (.int .i64 ((ks.size+1:Nat):Int))∧Below w.heap.size w w'
theorem l02Size_any:∀ (m:Nat) (ks:Es),ks.size<m→SizeSC ks:=by
 intro m
 induction m with
 | zero=>intro es h;omega
 | succ m ih=>
 intro ks hm k n p c b o B w hE hB hsz0
 have IH:=hid ih;clear ih
 obtain ⟨hbB,h0,h1,h2,h3,K,cap,b',o',h4,hc,hcm,hK,hks⟩:=hE
 have HKS:=hid hks;clear hks
 have hcm':cap≤9223372036854775807:=by unfold maxLen at hcm;omega
 have hbw:b<w.heap.size:=by omega
 have hls:=Es.len_le_size ks
 go_enter Tryz.func194,Tryz.ntmps194
 go_wp2
 go_loopw [3,4] (fun ll i wr=>∃ (j:Nat) (es':Es) (y:Nat),i=.int .i64 (j:Int)∧ll=.int .i64 (y:Int)∧j+es'.len=ks.len∧Hid (y+es'.size=ks.size+1)∧y≤1048577∧Hid (es'.size≤ks.size)∧Hid (ExsAt wr B es' b' (o'+j*5))∧Hid (Below w.heap.size w wr)) (fun _ i _=>ks.len - (intOf i).toNat)
 case atStart=>exact ⟨0,ks,1,by go_num,by go_num,by omega,by show _=_;omega,by omega,Nat.le_refl _,by show ExsAt _ _ _ _ _;rw [Nat.zero_mul,Nat.add_zero];exact HKS.out,Below.refl _ _⟩
 case round=>
  obtain ⟨j,es',y,rfl,rfl,hj,hy,y1,hsz,HE,HB⟩:=hrel
  have h4':wr.cell? ⟨b,o+4,none⟩=some (.slice K ks.len cap):=(HB.out.cell (p:=⟨b,_,none⟩) hbw).trans h4
  cases es' with
  | nil=>
   simp only [Es.len] at hj
   go_wp2
   go_ret
   have:=hy.out
   simp only [Es.size,Nat.add_zero] at this
   exact ⟨ret_int (by rw [this]),HB.out⟩
  | cons kk n' p' c' ks' r=>
   simp only [Es.len] at hj
   have hK:=hK (by omega)
   subst hK
   obtain ⟨hel,hr⟩:=HE.out
   have HEL:=hid hel
   have HR:=hid hr
   have hrs:Hid (r.size≤ks.size∧ks'.size<ks.size∧y+(1+ks'.size+r.size)=ks.size+1):=by
    have:=hsz.out
    have h2:=hy.out
    simp only [Es.size] at this h2
    exact ⟨by omega,by omega,by omega⟩
   have hb2:y+(ks'.size+1)≤1048577:=by have:=hrs.out;omega
   clear hel hr HE
   go_wp2_with fail
   refine (IH.out ks' (by have:=hrs.out;omega) kk n' p' c' b' (o'+j*5) B wr HEL.out (by have:=HB.out.size;omega) (by have:=hrs.out;omega)).mono ?_;rintro e w1 ⟨rfl,hb1⟩
   have HE1:Hid (ExsAt w1 B r b' (o'+(j+1)*5)):=by
    have:=HR.out.below (hb1.mono (by have:=HB.out.size;omega))
    rwa [show o'+j*5+5=o'+(j+1)*5 by omega] at this
   have HB1:=hid (bnext HB.out hb1)
   obtain ⟨z,hz⟩:∃ z,z=ks'.size+1:=⟨_,rfl⟩
   rw [←hz] at hb2 ⊢
   have HZ:Hid (y+z+r.size=ks.size+1):=by have:=hrs.out;show _=_;omega
   clear hz hb1 HR HEL
   go_wp2
   go_roundw
   case rel=>exact ⟨j+1,r,y+z,by go_num,by go_num,by omega,HZ,by omega,hrs.out.1,HE1,HB1⟩
   case measure=>simp [intOf];omega
end
end Go.Proofs.YtgfkglhelfkpoaaGreat
